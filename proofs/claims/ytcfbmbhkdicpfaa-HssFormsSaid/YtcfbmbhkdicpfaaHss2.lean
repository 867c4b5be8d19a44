/- Chapter 6: the lower key. -/
import Derived.Test.YtcfbmbhkdicpfaaHss1
import Derived.Test.YtcfbmbhkdicpfaaTag2
import Derived.Test.YtcfbmbhkdicpfaaRowN
namespace Go.Proofs.Ytcfbmbhkdicpfaa
open Go.RowKit
set_option maxRecDepth 100000

theorem and_mask (n h : Nat) (hn : n ≤ 1024) (hh : h ≤ 10) : bits .and .i64 (n : Int) ((2 ^ h - 1 : Nat) : Int) = ((n % 2 ^ h : Nat) : Int) := by
  have hm := (big_cast h hh).2
  have e : (BitVec.ofInt 64 (n : Int) &&& BitVec.ofInt 64 ((2 ^ h - 1 : Nat) : Int)).toNat = n % 2 ^ h := by
    rw [BitVec.toNat_and, BitVec.ofInt_natCast, BitVec.ofInt_natCast, BitVec.toNat_ofNat, BitVec.toNat_ofNat, Nat.mod_eq_of_lt (by omega), Nat.mod_eq_of_lt (by omega), Nat.and_two_pow_sub_one_eq_mod]
  show IntKind.i64.wrap (((BitVec.ofInt 64 (n : Int) &&& BitVec.ofInt 64 ((2 ^ h - 1 : Nat) : Int)).toNat : Nat) : Int) = _
  rw [e]
  have := Nat.mod_le n (2 ^ h)
  generalize n % 2 ^ h = r at *
  exact IntWalk.i64_in _ (by omega)
theorem mask_wrap (m : Nat) (h : 1 ≤ m ∧ m ≤ 1024) : IntKind.i64.wrap ((m : Int) - 1) = ((m - 1 : Nat) : Int) ∧ wrap64 ((m : Int) - 1) = ((m - 1 : Nat) : Int) :=
  ⟨by rw [IntWalk.i64_in _ (by omega)]; omega, by unfold wrap64; omega⟩
set_option maxHeartbeats 4000000 in
theorem lower_any (w : World) (k : LKey) (h n : Nat) (hk : k.height = (h : Int)) (h5 : h ≤ 5) (hn : k.next = (n : Int)) (hn2 : n ≤ 1024) (hid : k.id.length = 16) (hsd : k.seed.length = 32) : Calls Try.prog 39 #[.agg (lkC k).toArray] w fun e w' => e = .returned (.agg (lkC (lowV k)).toArray) ∧ Pure w w' := by
  obtain ⟨X, hXl, HZ⟩ := ex28
  have HC := Lib.hid (fun W g => @hk_cells k W g)
  have hup := fun W => upper_any W k h n hk h5 hn
  have hU4 : ∀ (W : World) g, W.heap[g]? = some (.cells (lkC { k with next := ((n / 2 ^ h : Nat) : Int) }).toArray 68 (0, 0)) → W.cell? ⟨g, 4, none⟩ = some (.int .i64 ((n / 2 ^ h : Nat) : Int)) := fun W g hg => (lk_cells hg).2.2.2.2
  have hU1 := lkC_one { k with next := ((n / 2 ^ h : Nat) : Int) }
  have hUl : (lkC { k with next := ((n / 2 ^ h : Nat) : Int) }).length = 5 := rfl
  obtain ⟨C, hC⟩ : ∃ C, C = lkC k := ⟨_, rfl⟩
  rw [← hC] at HC hup ⊢
  have hCl : C.length = 5 := by rw [hC]; rfl
  have HCI : Hid ((Try.prog.info? 23).map (·.size) = some C.length) := Lib.hid (by rw [hCl]; exact infoHK)
  clear hC hCl
  generalize lkC { k with next := ((n / 2 ^ h : Nat) : Int) } = U at *
  have hq : n / 2 ^ h ≤ 1024 := Nat.le_trans (Nat.div_le_self _ _) hn2
  have hlow : lowV k = ⟨k.ots, (h : Int), (tagV 2 [k.id, k.seed, beB (n / 2 ^ h) 4]).take 16, tagV 3 [k.id, k.seed, beB (n / 2 ^ h) 4], ((n % 2 ^ h : Nat) : Int)⟩ := by
    rw [lowV, upN, hk, hn]; rfl
  have hnm := fun W => hnum_any W (n / 2 ^ h) (by omega)
  have hb4 := beB_length (n / 2 ^ h) 4
  rw [hlow]
  obtain ⟨ots, height, id, seed, next⟩ := k
  simp only at hk hn hid hsd HC ⊢
  subst hk
  subst hn
  generalize n / 2 ^ h = q at *
  generalize beB q 4 = b4 at *
  have hs3 : sumL [id, seed, b4] ≤ 65536 := by simp [sumL, hid, hsd, hb4]
  have ht2 : ∀ (W : World) (g : Nat), W.heap[g]? = some (.cells (strsV [id, seed, b4]).toArray 9 (0, 0)) → Calls Try.prog 85 #[.int .i64 2, .slice (some ⟨g, 0, none⟩) 3 3] W fun e w' => e = .returned (.tuple #[hv (tagV 2 [id, seed, b4]), .int .i64 0]) ∧ Pure W w' := fun W g hg => tagSum_any W 2 (by decide) g [id, seed, b4] hg hs3 (by simp)
  have ht3 : ∀ (W : World) (g : Nat), W.heap[g]? = some (.cells (strsV [id, seed, b4]).toArray 9 (0, 0)) → Calls Try.prog 85 #[.int .i64 3, .slice (some ⟨g, 0, none⟩) 3 3] W fun e w' => e = .returned (.tuple #[hv (tagV 3 [id, seed, b4]), .int .i64 0]) ∧ Pure W w' := fun W g hg => tagSum_any W 3 (by decide) g [id, seed, b4] hg hs3 (by simp)
  have hl2 := tagV_length 2 [id, seed, b4]
  have hl3 := tagV_length 3 [id, seed, b4]
  generalize tagV 2 [id, seed, b4] = R2 at *
  generalize tagV 3 [id, seed, b4] = R3 at *
  have HU := Lib.hid hU4; have HU1 := Lib.hid hU1; have HUL := Lib.hid hUl; have HUP := Lib.hid hup; have HNM := Lib.hid hnm; have HT2 := Lib.hid ht2; have HT3 := Lib.hid ht3
  have HUI : Hid ((Try.prog.info? 68).map (·.size) = some U.length) := Lib.hid (by rw [hUl]; exact infoLK)
  clear hU4 hU1 hUl hup hnm ht2 ht3 hlow hs3 hq
  go_enter Try.func39, Try.ntmps39
  go_wp2_with (refine wpList_boxV rfl 23 _ rfl C rfl ?_)
  intro g1 w1 e1 c1 t1 s1
  clear e1 s1
  have D1 := Lib.hid c1; have PT := Lib.hid t1
  clear c1 t1
  go_wp2_with (refine wpList_allocZ rfl 68 rfl _ zeroLK ?_)
  intro g2 w2 e2 c2 t2 s2
  have l2 : w.heap.size ≤ g2 := by have := PT.out.size; omega
  have n12 : g1 ≠ g2 := by have := (Array.getElem?_eq_some_iff.1 D1.out).1; omega
  clear e2 s2
  have D2 := Lib.hid c2; have D1 := Lib.hid (t2.obj D1.out (fun e => e)); have PT := Lib.hid (PT.out.pure t2)
  clear c2 t2
  have R1 := range_of_row D1.out
  go_wp2_with (refine wpList_load_mid rfl 23 _ rfl g1 0 rfl C _ R1 Try.underlying23 rfl HCI.out ?_)
  clear R1
  refine (HUP.out _).mono ?_
  rintro e w3 ⟨rfl, t3⟩
  have D1 := Lib.hid (t3.obj D1.out (fun e => e)); have D2 := Lib.hid (t3.obj D2.out (fun e => e)); have PT := Lib.hid (PT.out.pure t3)
  clear t3
  go_wp2_with (refine wpList_allocZ rfl 68 rfl _ zeroLK ?_)
  intro g3 w4 e4 c4 t4 s4
  have l3 : w.heap.size ≤ g3 := by have := PT.out.size; omega
  have n13 : g1 ≠ g3 := by have := (Array.getElem?_eq_some_iff.1 D1.out).1; omega
  have n23 : g2 ≠ g3 := by have := (Array.getElem?_eq_some_iff.1 D2.out).1; omega
  clear e4 s4
  go_wp2_with (refine wpList_store_blk rfl 68 _ _ rfl g3 _ U _ rfl rfl c4 (by rw [HUL.out]; rfl) HUI.out HU1.out ?_)
  intro w5 d5 t5 s5
  clear s5
  have D3 := Lib.hid d5; have D1 := Lib.hid (t5.obj (t4.obj D1.out (fun e => e)) n13); have D2 := Lib.hid (t5.obj (t4.obj D2.out (fun e => e)) n23); have PT := Lib.hid ((PT.out.pure t4).newer t5 l3)
  clear c4 t4 d5 t5
  have zid : (bstr id).size = 16 := by rw [bstr_size, hid]
  have G2A := Lib.hid (Array.getElem?_eq_some_iff.1 D2.out).1
  go_wp2_with fail
  have hB : ∀ p ∈ ([(g1, Obj.cells C.toArray 23 (0, 0)), (g3, Obj.cells U.toArray 68 (0, 0))] : List (Nat × Obj)), p.1 < w5.heap.size := by
    intro p hp
    simp only [List.mem_cons, List.mem_nil_iff, or_false] at hp
    rcases hp with rfl | rfl
    · exact (Array.getElem?_eq_some_iff.1 D1.out).1
    · exact (Array.getElem?_eq_some_iff.1 D3.out).1
  refine wp_region_G_cut2 (S := fun w' => Pure w5 w' ∧ Held [(g1, Obj.cells C.toArray 23 (0, 0)), (g3, Obj.cells U.toArray 68 (0, 0))] w') (T := NewBoth 18 w5.heap.size 3 (Obj.cells (strsV [id, seed, b4]).toArray 9 (0, 0)) 4 13 (Obj.cells X.toArray 62 (0, 0)) (Obj.cells (u8s R2).toArray 62 (0, 0))) (R := fun _ gV w' => w5.heap.size ≤ gV ∧ Hid (Pure w w') ∧ Hid (w'.heap[g1]? = some (Obj.cells C.toArray 23 (0, 0))) ∧ Hid (w'.heap[g3]? = some (Obj.cells U.toArray 68 (0, 0))) ∧ Hid (w'.heap[g2]? = some (Obj.cells (lkC LKey0).toArray 68 (0, 0))) ∧ Hid (w'.heap[gV]? = some (Obj.cells (u8s R2).toArray 62 (0, 0)))) (by kernel_rfl) ⟨(Turn.refl _ _).drew, held_cons (show w5.drew.heap[_]? = _ from D1.out) (held_cons (show w5.drew.heap[_]? = _ from D3.out) (held_nil _))⟩ ⟨(fun g h hB => nomatch h), (fun g h hB => nomatch h)⟩ ?_
  apply Exists.intro
  constructor
  have HG := Grow.both w5 [(g1, Obj.cells C.toArray 23 (0, 0)), (g3, Obj.cells U.toArray 68 (0, 0))] 18 w5.heap.size 3 (Obj.cells (strsV [id, seed, b4]).toArray 9 (0, 0)) 4 13 (Obj.cells X.toArray 62 (0, 0)) (Obj.cells (u8s R2).toArray 62 (0, 0))
  refine atN 0 ?_
  iterate 6
    refine anyG_y HG (v := ?_) rfl (by kernel_rfl) (fun _ _ _ h => nomatch h.1) (NewBoth.ins (by decide) (by decide) (by decide)) (Or.inl ⟨by rfl, fun w hSw => ?_⟩) ?_
    rotate_left
    · skip
      obtain ⟨s0, s1, s2, s3, s4⟩ := HC.out _ _ hSw.2.head
      have u4 := HU.out _ _ hSw.2.tail.head
      first | (go_simp; done) | (go_simp; with_reducible rfl)
    simp only [Nat.reduceAdd, AP]
  refine anyG_c HG (fun w hSw => HNM.out w) rfl (by kernel_rfl) (fun _ _ _ h => nomatch h.1) (NewBoth.ins (by decide) (by decide) (by decide)) (by rfl) (fun w hSw => by go_simp; first | done | with_reducible rfl) ?_
  simp only [Nat.reduceAdd, AP]
  refine anyG_two (i := 7) (j := 12) (by kernel_rfl) ?_ ?_
  · skip
    refine stepG_strs3 HG (i := 7) rfl (by rfl) rfl rfl rfl rfl rfl (by decide) (by decide) (fun w h => h.1.size) (by simp) (fun gR lR => ?_)
    simp only [Act.put, List.setIfInBounds_toArray, List.set_cons_zero, List.set_cons_succ]
    refine anyG_two (i := 8) (j := 12) (by kernel_rfl) ?_ ?_
    · skip
      refine stepG_call HG (i := 8) rfl (by rfl) (fun w hSw => by go_simp; first | done | with_reducible rfl) (fun w hS hT => HT2.out w gR (hT.1 gR rfl lR)) (NewBoth.ins (by decide) (by decide) (by decide)) ?_
      simp only [AP]
      refine anyG_take HG (i := 9) (v := ?_) rfl (by kernel_rfl) (by kernel_rfl) (by kernel_rfl) (fun _ _ _ h => nomatch h.1) (NewBoth.ins (by decide) (by decide) (by decide)) (Or.inl ⟨by rfl, fun w hSw => ?_⟩) ?_
      rotate_left
      · skip
        first | (go_simp; done) | (go_simp; with_reducible rfl)
      simp only [AP]
      refine anyG_take HG (i := 10) (v := ?_) rfl (by kernel_rfl) (by kernel_rfl) (by kernel_rfl) (fun _ _ _ h => nomatch h.1) (NewBoth.ins (by decide) (by decide) (by decide)) (Or.inl ⟨by rfl, fun w hSw => ?_⟩) ?_
      rotate_left
      · skip
        first | (go_simp; done) | (go_simp; with_reducible rfl)
      simp only [AP]
      refine anyG_take HG (i := 11) (v := ?_) rfl (by kernel_rfl) (by kernel_rfl) (by kernel_rfl) (fun _ _ _ h => nomatch h.1) (NewBoth.ins (by decide) (by decide) (by decide)) (Or.inl ⟨by rfl, fun w hSw => ?_⟩) ?_
      rotate_left
      · skip
        first | (go_simp; done) | (go_simp; with_reducible rfl)
      simp only [AP]
      refine anyG_one (i := 12) (by kernel_rfl) ?_
      refine stepG_alloc (z := .agg X.toArray) HG (i := 12) rfl (by rfl) rfl rfl (by decide) (by rfl) HZ.out (fun w h => h.1.size) (by simp) (fun gV lV => ?_)
      simp only [Act.put, List.setIfInBounds_toArray, List.set_cons_zero, List.set_cons_succ]
      refine anyG_one (i := 13) (by kernel_rfl) ?_
      refine stepG_store (g := gV) rfl (by rfl) rfl rfl rfl rfl lV (by rfl) (by rfl) rfl (Nat.le_refl _) hB (by intro hh; injection hh with _ h2 _; exact absurd h2 (by decide)) (size28 hXl hl2) (info28_l hl2) (u8s_one _) ?_
      refine anyG_take HG (i := 14) (v := ?_) rfl (by kernel_rfl) (by kernel_rfl) (by kernel_rfl) (fun _ _ _ h => nomatch h.1) (NewBoth.ins (by decide) (by decide) (by decide)) (Or.inl ⟨by rfl, fun w hSw => ?_⟩) ?_
      rotate_left
      · skip
        first | (go_simp; done) | (go_simp; with_reducible rfl)
      simp only [AP]
      refine anyG_done (by kernel_rfl) (fun w6 hS hT => ?_) _
      obtain ⟨hpS, hS⟩ := hS
      clear HG
      have PT := Lib.hid (PT.out.pure hpS)
      have D1 := Lib.hid hS.head
      have D3 := Lib.hid hS.tail.head
      have DV : Hid (w6.heap[gV]? = some (Obj.cells (u8s R2).toArray 62 (0, 0))) := Lib.hid (hT.2 gV rfl lV)
      have D2 := Lib.hid (hpS.obj D2.out (fun e => e))
      clear hS hT hpS
      exact ⟨rfl, gR, gV, rfl, lV, PT, D1, D3, D2, DV⟩
    · skip
      refine stepG_alloc (z := .agg X.toArray) HG (i := 12) rfl (by rfl) rfl rfl (by decide) (by rfl) HZ.out (fun w h => h.1.size) (by simp) (fun gV lV => ?_)
      simp only [Act.put, List.setIfInBounds_toArray, List.set_cons_zero, List.set_cons_succ]
      refine anyG_one (i := 8) (by kernel_rfl) ?_
      refine stepG_call HG (i := 8) rfl (by rfl) (fun w hSw => by go_simp; first | done | with_reducible rfl) (fun w hS hT => HT2.out w gR (hT.1 gR rfl lR)) (NewBoth.ins (by decide) (by decide) (by decide)) ?_
      simp only [AP]
      refine anyG_take HG (i := 9) (v := ?_) rfl (by kernel_rfl) (by kernel_rfl) (by kernel_rfl) (fun _ _ _ h => nomatch h.1) (NewBoth.ins (by decide) (by decide) (by decide)) (Or.inl ⟨by rfl, fun w hSw => ?_⟩) ?_
      rotate_left
      · skip
        first | (go_simp; done) | (go_simp; with_reducible rfl)
      simp only [AP]
      refine anyG_take HG (i := 10) (v := ?_) rfl (by kernel_rfl) (by kernel_rfl) (by kernel_rfl) (fun _ _ _ h => nomatch h.1) (NewBoth.ins (by decide) (by decide) (by decide)) (Or.inl ⟨by rfl, fun w hSw => ?_⟩) ?_
      rotate_left
      · skip
        first | (go_simp; done) | (go_simp; with_reducible rfl)
      simp only [AP]
      refine anyG_take HG (i := 11) (v := ?_) rfl (by kernel_rfl) (by kernel_rfl) (by kernel_rfl) (fun _ _ _ h => nomatch h.1) (NewBoth.ins (by decide) (by decide) (by decide)) (Or.inl ⟨by rfl, fun w hSw => ?_⟩) ?_
      rotate_left
      · skip
        first | (go_simp; done) | (go_simp; with_reducible rfl)
      simp only [AP]
      refine anyG_one (i := 13) (by kernel_rfl) ?_
      refine stepG_store (g := gV) rfl (by rfl) rfl rfl rfl rfl lV (by rfl) (by rfl) rfl (Nat.le_refl _) hB (by intro hh; injection hh with _ h2 _; exact absurd h2 (by decide)) (size28 hXl hl2) (info28_l hl2) (u8s_one _) ?_
      refine anyG_take HG (i := 14) (v := ?_) rfl (by kernel_rfl) (by kernel_rfl) (by kernel_rfl) (fun _ _ _ h => nomatch h.1) (NewBoth.ins (by decide) (by decide) (by decide)) (Or.inl ⟨by rfl, fun w hSw => ?_⟩) ?_
      rotate_left
      · skip
        first | (go_simp; done) | (go_simp; with_reducible rfl)
      simp only [AP]
      refine anyG_done (by kernel_rfl) (fun w6 hS hT => ?_) _
      obtain ⟨hpS, hS⟩ := hS
      clear HG
      have PT := Lib.hid (PT.out.pure hpS)
      have D1 := Lib.hid hS.head
      have D3 := Lib.hid hS.tail.head
      have DV : Hid (w6.heap[gV]? = some (Obj.cells (u8s R2).toArray 62 (0, 0))) := Lib.hid (hT.2 gV rfl lV)
      have D2 := Lib.hid (hpS.obj D2.out (fun e => e))
      clear hS hT hpS
      exact ⟨rfl, gR, gV, rfl, lV, PT, D1, D3, D2, DV⟩
  · skip
    refine stepG_alloc (z := .agg X.toArray) HG (i := 12) rfl (by rfl) rfl rfl (by decide) (by rfl) HZ.out (fun w h => h.1.size) (by simp) (fun gV lV => ?_)
    simp only [Act.put, List.setIfInBounds_toArray, List.set_cons_zero, List.set_cons_succ]
    refine anyG_one (i := 7) (by kernel_rfl) ?_
    refine stepG_strs3 HG (i := 7) rfl (by rfl) rfl rfl rfl rfl rfl (by decide) (by decide) (fun w h => h.1.size) (by simp) (fun gR lR => ?_)
    simp only [Act.put, List.setIfInBounds_toArray, List.set_cons_zero, List.set_cons_succ]
    refine anyG_one (i := 8) (by kernel_rfl) ?_
    refine stepG_call HG (i := 8) rfl (by rfl) (fun w hSw => by go_simp; first | done | with_reducible rfl) (fun w hS hT => HT2.out w gR (hT.1 gR rfl lR)) (NewBoth.ins (by decide) (by decide) (by decide)) ?_
    simp only [AP]
    refine anyG_take HG (i := 9) (v := ?_) rfl (by kernel_rfl) (by kernel_rfl) (by kernel_rfl) (fun _ _ _ h => nomatch h.1) (NewBoth.ins (by decide) (by decide) (by decide)) (Or.inl ⟨by rfl, fun w hSw => ?_⟩) ?_
    rotate_left
    · skip
      first | (go_simp; done) | (go_simp; with_reducible rfl)
    simp only [AP]
    refine anyG_take HG (i := 10) (v := ?_) rfl (by kernel_rfl) (by kernel_rfl) (by kernel_rfl) (fun _ _ _ h => nomatch h.1) (NewBoth.ins (by decide) (by decide) (by decide)) (Or.inl ⟨by rfl, fun w hSw => ?_⟩) ?_
    rotate_left
    · skip
      first | (go_simp; done) | (go_simp; with_reducible rfl)
    simp only [AP]
    refine anyG_take HG (i := 11) (v := ?_) rfl (by kernel_rfl) (by kernel_rfl) (by kernel_rfl) (fun _ _ _ h => nomatch h.1) (NewBoth.ins (by decide) (by decide) (by decide)) (Or.inl ⟨by rfl, fun w hSw => ?_⟩) ?_
    rotate_left
    · skip
      first | (go_simp; done) | (go_simp; with_reducible rfl)
    simp only [AP]
    refine anyG_one (i := 13) (by kernel_rfl) ?_
    refine stepG_store (g := gV) rfl (by rfl) rfl rfl rfl rfl lV (by rfl) (by rfl) rfl (Nat.le_refl _) hB (by intro hh; injection hh with _ h2 _; exact absurd h2 (by decide)) (size28 hXl hl2) (info28_l hl2) (u8s_one _) ?_
    refine anyG_take HG (i := 14) (v := ?_) rfl (by kernel_rfl) (by kernel_rfl) (by kernel_rfl) (fun _ _ _ h => nomatch h.1) (NewBoth.ins (by decide) (by decide) (by decide)) (Or.inl ⟨by rfl, fun w hSw => ?_⟩) ?_
    rotate_left
    · skip
      first | (go_simp; done) | (go_simp; with_reducible rfl)
    simp only [AP]
    refine anyG_done (by kernel_rfl) (fun w6 hS hT => ?_) _
    obtain ⟨hpS, hS⟩ := hS
    clear HG
    have PT := Lib.hid (PT.out.pure hpS)
    have D1 := Lib.hid hS.head
    have D3 := Lib.hid hS.tail.head
    have DV : Hid (w6.heap[gV]? = some (Obj.cells (u8s R2).toArray 62 (0, 0))) := Lib.hid (hT.2 gV rfl lV)
    have D2 := Lib.hid (hpS.obj D2.out (fun e => e))
    clear hS hT hpS
    exact ⟨rfl, gR, gV, rfl, lV, PT, D1, D3, D2, DV⟩
  rintro _ g4 w6 ⟨l4, p6, d1, d3, d2, d4⟩
  have PT := p6; have D1 := d1; have D3 := d3; have D2 := d2; have D4 := d4
  clear p6 d1 d3 d2 d4
  have L4 := Lib.hid l4
  have N24 : Hid (g2 ≠ g4) := Lib.hid fun e => by have := G2A.out; omega
  have G2B := Lib.hid (Array.getElem?_eq_some_iff.1 D2.out).1
  clear l4 hB
  go_wp2_with fail
  have hB : ∀ p ∈ ([(g1, Obj.cells C.toArray 23 (0, 0)), (g3, Obj.cells U.toArray 68 (0, 0))] : List (Nat × Obj)), p.1 < w6.heap.size := by
    intro p hp
    simp only [List.mem_cons, List.mem_nil_iff, or_false] at hp
    rcases hp with rfl | rfl
    · exact (Array.getElem?_eq_some_iff.1 D1.out).1
    · exact (Array.getElem?_eq_some_iff.1 D3.out).1
  refine wp_region_G_cut2 (S := fun w' => Pure w6 w' ∧ Held [(g1, Obj.cells C.toArray 23 (0, 0)), (g3, Obj.cells U.toArray 68 (0, 0))] w') (T := NewBoth 30 w6.heap.size 3 (Obj.cells (strsV [id, seed, b4]).toArray 9 (0, 0)) 6 13 (Obj.cells X.toArray 62 (0, 0)) (Obj.cells (u8s R3).toArray 62 (0, 0))) (R := fun _ gV w' => w6.heap.size ≤ gV ∧ Hid (Pure w w') ∧ Hid (w'.heap[g1]? = some (Obj.cells C.toArray 23 (0, 0))) ∧ Hid (w'.heap[g3]? = some (Obj.cells U.toArray 68 (0, 0))) ∧ Hid (w'.heap[g2]? = some (Obj.cells (lkC LKey0).toArray 68 (0, 0))) ∧ Hid (w'.heap[gV]? = some (Obj.cells (u8s R3).toArray 62 (0, 0))) ∧ Hid (w'.heap[g4]? = some (Obj.cells (u8s R2).toArray 62 (0, 0)))) (by kernel_rfl) ⟨(Turn.refl _ _).drew, held_cons (show w6.drew.heap[_]? = _ from D1.out) (held_cons (show w6.drew.heap[_]? = _ from D3.out) (held_nil _))⟩ ⟨(fun g h hB => nomatch h), (fun g h hB => nomatch h)⟩ ?_
  apply Exists.intro
  constructor
  have HG := Grow.both w6 [(g1, Obj.cells C.toArray 23 (0, 0)), (g3, Obj.cells U.toArray 68 (0, 0))] 30 w6.heap.size 3 (Obj.cells (strsV [id, seed, b4]).toArray 9 (0, 0)) 6 13 (Obj.cells X.toArray 62 (0, 0)) (Obj.cells (u8s R3).toArray 62 (0, 0))
  refine atN 0 ?_
  iterate 6
    refine anyG_y HG (v := ?_) rfl (by kernel_rfl) (fun _ _ _ h => nomatch h.1) (NewBoth.ins (by decide) (by decide) (by decide)) (Or.inl ⟨by rfl, fun w hSw => ?_⟩) ?_
    rotate_left
    · skip
      obtain ⟨s0, s1, s2, s3, s4⟩ := HC.out _ _ hSw.2.head
      have u4 := HU.out _ _ hSw.2.tail.head
      first | (go_simp; done) | (go_simp; with_reducible rfl)
    simp only [Nat.reduceAdd, AP]
  refine anyG_c HG (fun w hSw => HNM.out w) rfl (by kernel_rfl) (fun _ _ _ h => nomatch h.1) (NewBoth.ins (by decide) (by decide) (by decide)) (by rfl) (fun w hSw => by go_simp; first | done | with_reducible rfl) ?_
  simp only [Nat.reduceAdd, AP]
  refine anyG_two (i := 7) (j := 12) (by kernel_rfl) ?_ ?_
  · skip
    refine stepG_strs3 HG (i := 7) rfl (by rfl) rfl rfl rfl rfl rfl (by decide) (by decide) (fun w h => h.1.size) (by simp) (fun gR lR => ?_)
    simp only [Act.put, List.setIfInBounds_toArray, List.set_cons_zero, List.set_cons_succ]
    refine anyG_two (i := 8) (j := 12) (by kernel_rfl) ?_ ?_
    · skip
      refine stepG_call HG (i := 8) rfl (by rfl) (fun w hSw => by go_simp; first | done | with_reducible rfl) (fun w hS hT => HT3.out w gR (hT.1 gR rfl lR)) (NewBoth.ins (by decide) (by decide) (by decide)) ?_
      simp only [AP]
      refine anyG_take HG (i := 9) (v := ?_) rfl (by kernel_rfl) (by kernel_rfl) (by kernel_rfl) (fun _ _ _ h => nomatch h.1) (NewBoth.ins (by decide) (by decide) (by decide)) (Or.inl ⟨by rfl, fun w hSw => ?_⟩) ?_
      rotate_left
      · skip
        first | (go_simp; done) | (go_simp; with_reducible rfl)
      simp only [AP]
      refine anyG_take HG (i := 10) (v := ?_) rfl (by kernel_rfl) (by kernel_rfl) (by kernel_rfl) (fun _ _ _ h => nomatch h.1) (NewBoth.ins (by decide) (by decide) (by decide)) (Or.inl ⟨by rfl, fun w hSw => ?_⟩) ?_
      rotate_left
      · skip
        first | (go_simp; done) | (go_simp; with_reducible rfl)
      simp only [AP]
      refine anyG_take HG (i := 11) (v := ?_) rfl (by kernel_rfl) (by kernel_rfl) (by kernel_rfl) (fun _ _ _ h => nomatch h.1) (NewBoth.ins (by decide) (by decide) (by decide)) (Or.inl ⟨by rfl, fun w hSw => ?_⟩) ?_
      rotate_left
      · skip
        first | (go_simp; done) | (go_simp; with_reducible rfl)
      simp only [AP]
      refine anyG_one (i := 12) (by kernel_rfl) ?_
      refine stepG_alloc (z := .agg X.toArray) HG (i := 12) rfl (by rfl) rfl rfl (by decide) (by rfl) HZ.out (fun w h => h.1.size) (by simp) (fun gV lV => ?_)
      simp only [Act.put, List.setIfInBounds_toArray, List.set_cons_zero, List.set_cons_succ]
      refine anyG_one (i := 13) (by kernel_rfl) ?_
      refine stepG_store (g := gV) rfl (by rfl) rfl rfl rfl rfl lV (by rfl) (by rfl) rfl (Nat.le_refl _) hB (by intro hh; injection hh with _ h2 _; exact absurd h2 (by decide)) (size28 hXl hl3) (info28_l hl3) (u8s_one _) ?_
      refine anyG_take HG (i := 14) (v := ?_) rfl (by kernel_rfl) (by kernel_rfl) (by kernel_rfl) (fun _ _ _ h => nomatch h.1) (NewBoth.ins (by decide) (by decide) (by decide)) (Or.inl ⟨by rfl, fun w hSw => ?_⟩) ?_
      rotate_left
      · skip
        first | (go_simp; done) | (go_simp; with_reducible rfl)
      simp only [AP]
      refine anyG_done (by kernel_rfl) (fun w7 hS hT => ?_) _
      obtain ⟨hpS, hS⟩ := hS
      clear HG
      have PT := Lib.hid (PT.out.pure hpS)
      have D1 := Lib.hid hS.head
      have D3 := Lib.hid hS.tail.head
      have DV : Hid (w7.heap[gV]? = some (Obj.cells (u8s R3).toArray 62 (0, 0))) := Lib.hid (hT.2 gV rfl lV)
      have D2 := Lib.hid (hpS.obj D2.out (fun e => e))
      have D4 := Lib.hid (hpS.obj D4.out (fun e => e))
      clear hS hT hpS
      exact ⟨rfl, gR, gV, rfl, lV, PT, D1, D3, D2, DV, D4⟩
    · skip
      refine stepG_alloc (z := .agg X.toArray) HG (i := 12) rfl (by rfl) rfl rfl (by decide) (by rfl) HZ.out (fun w h => h.1.size) (by simp) (fun gV lV => ?_)
      simp only [Act.put, List.setIfInBounds_toArray, List.set_cons_zero, List.set_cons_succ]
      refine anyG_one (i := 8) (by kernel_rfl) ?_
      refine stepG_call HG (i := 8) rfl (by rfl) (fun w hSw => by go_simp; first | done | with_reducible rfl) (fun w hS hT => HT3.out w gR (hT.1 gR rfl lR)) (NewBoth.ins (by decide) (by decide) (by decide)) ?_
      simp only [AP]
      refine anyG_take HG (i := 9) (v := ?_) rfl (by kernel_rfl) (by kernel_rfl) (by kernel_rfl) (fun _ _ _ h => nomatch h.1) (NewBoth.ins (by decide) (by decide) (by decide)) (Or.inl ⟨by rfl, fun w hSw => ?_⟩) ?_
      rotate_left
      · skip
        first | (go_simp; done) | (go_simp; with_reducible rfl)
      simp only [AP]
      refine anyG_take HG (i := 10) (v := ?_) rfl (by kernel_rfl) (by kernel_rfl) (by kernel_rfl) (fun _ _ _ h => nomatch h.1) (NewBoth.ins (by decide) (by decide) (by decide)) (Or.inl ⟨by rfl, fun w hSw => ?_⟩) ?_
      rotate_left
      · skip
        first | (go_simp; done) | (go_simp; with_reducible rfl)
      simp only [AP]
      refine anyG_take HG (i := 11) (v := ?_) rfl (by kernel_rfl) (by kernel_rfl) (by kernel_rfl) (fun _ _ _ h => nomatch h.1) (NewBoth.ins (by decide) (by decide) (by decide)) (Or.inl ⟨by rfl, fun w hSw => ?_⟩) ?_
      rotate_left
      · skip
        first | (go_simp; done) | (go_simp; with_reducible rfl)
      simp only [AP]
      refine anyG_one (i := 13) (by kernel_rfl) ?_
      refine stepG_store (g := gV) rfl (by rfl) rfl rfl rfl rfl lV (by rfl) (by rfl) rfl (Nat.le_refl _) hB (by intro hh; injection hh with _ h2 _; exact absurd h2 (by decide)) (size28 hXl hl3) (info28_l hl3) (u8s_one _) ?_
      refine anyG_take HG (i := 14) (v := ?_) rfl (by kernel_rfl) (by kernel_rfl) (by kernel_rfl) (fun _ _ _ h => nomatch h.1) (NewBoth.ins (by decide) (by decide) (by decide)) (Or.inl ⟨by rfl, fun w hSw => ?_⟩) ?_
      rotate_left
      · skip
        first | (go_simp; done) | (go_simp; with_reducible rfl)
      simp only [AP]
      refine anyG_done (by kernel_rfl) (fun w7 hS hT => ?_) _
      obtain ⟨hpS, hS⟩ := hS
      clear HG
      have PT := Lib.hid (PT.out.pure hpS)
      have D1 := Lib.hid hS.head
      have D3 := Lib.hid hS.tail.head
      have DV : Hid (w7.heap[gV]? = some (Obj.cells (u8s R3).toArray 62 (0, 0))) := Lib.hid (hT.2 gV rfl lV)
      have D2 := Lib.hid (hpS.obj D2.out (fun e => e))
      have D4 := Lib.hid (hpS.obj D4.out (fun e => e))
      clear hS hT hpS
      exact ⟨rfl, gR, gV, rfl, lV, PT, D1, D3, D2, DV, D4⟩
  · skip
    refine stepG_alloc (z := .agg X.toArray) HG (i := 12) rfl (by rfl) rfl rfl (by decide) (by rfl) HZ.out (fun w h => h.1.size) (by simp) (fun gV lV => ?_)
    simp only [Act.put, List.setIfInBounds_toArray, List.set_cons_zero, List.set_cons_succ]
    refine anyG_one (i := 7) (by kernel_rfl) ?_
    refine stepG_strs3 HG (i := 7) rfl (by rfl) rfl rfl rfl rfl rfl (by decide) (by decide) (fun w h => h.1.size) (by simp) (fun gR lR => ?_)
    simp only [Act.put, List.setIfInBounds_toArray, List.set_cons_zero, List.set_cons_succ]
    refine anyG_one (i := 8) (by kernel_rfl) ?_
    refine stepG_call HG (i := 8) rfl (by rfl) (fun w hSw => by go_simp; first | done | with_reducible rfl) (fun w hS hT => HT3.out w gR (hT.1 gR rfl lR)) (NewBoth.ins (by decide) (by decide) (by decide)) ?_
    simp only [AP]
    refine anyG_take HG (i := 9) (v := ?_) rfl (by kernel_rfl) (by kernel_rfl) (by kernel_rfl) (fun _ _ _ h => nomatch h.1) (NewBoth.ins (by decide) (by decide) (by decide)) (Or.inl ⟨by rfl, fun w hSw => ?_⟩) ?_
    rotate_left
    · skip
      first | (go_simp; done) | (go_simp; with_reducible rfl)
    simp only [AP]
    refine anyG_take HG (i := 10) (v := ?_) rfl (by kernel_rfl) (by kernel_rfl) (by kernel_rfl) (fun _ _ _ h => nomatch h.1) (NewBoth.ins (by decide) (by decide) (by decide)) (Or.inl ⟨by rfl, fun w hSw => ?_⟩) ?_
    rotate_left
    · skip
      first | (go_simp; done) | (go_simp; with_reducible rfl)
    simp only [AP]
    refine anyG_take HG (i := 11) (v := ?_) rfl (by kernel_rfl) (by kernel_rfl) (by kernel_rfl) (fun _ _ _ h => nomatch h.1) (NewBoth.ins (by decide) (by decide) (by decide)) (Or.inl ⟨by rfl, fun w hSw => ?_⟩) ?_
    rotate_left
    · skip
      first | (go_simp; done) | (go_simp; with_reducible rfl)
    simp only [AP]
    refine anyG_one (i := 13) (by kernel_rfl) ?_
    refine stepG_store (g := gV) rfl (by rfl) rfl rfl rfl rfl lV (by rfl) (by rfl) rfl (Nat.le_refl _) hB (by intro hh; injection hh with _ h2 _; exact absurd h2 (by decide)) (size28 hXl hl3) (info28_l hl3) (u8s_one _) ?_
    refine anyG_take HG (i := 14) (v := ?_) rfl (by kernel_rfl) (by kernel_rfl) (by kernel_rfl) (fun _ _ _ h => nomatch h.1) (NewBoth.ins (by decide) (by decide) (by decide)) (Or.inl ⟨by rfl, fun w hSw => ?_⟩) ?_
    rotate_left
    · skip
      first | (go_simp; done) | (go_simp; with_reducible rfl)
    simp only [AP]
    refine anyG_done (by kernel_rfl) (fun w7 hS hT => ?_) _
    obtain ⟨hpS, hS⟩ := hS
    clear HG
    have PT := Lib.hid (PT.out.pure hpS)
    have D1 := Lib.hid hS.head
    have D3 := Lib.hid hS.tail.head
    have DV : Hid (w7.heap[gV]? = some (Obj.cells (u8s R3).toArray 62 (0, 0))) := Lib.hid (hT.2 gV rfl lV)
    have D2 := Lib.hid (hpS.obj D2.out (fun e => e))
    have D4 := Lib.hid (hpS.obj D4.out (fun e => e))
    clear hS hT hpS
    exact ⟨rfl, gR, gV, rfl, lV, PT, D1, D3, D2, DV, D4⟩
  rintro _ g6 w7 ⟨l6, p7, d1, d3, d2, d6, d4⟩
  have PT := p7; have D1 := d1; have D2 := d2; have D4 := d4; have D6 := d6
  have N26 : Hid (g2 ≠ g6) := Lib.hid fun e => by have := G2B.out; omega
  clear p7 d1 d3 d2 d4 d6 l6
  have l2b := l2
  obtain ⟨m, hm⟩ : ∃ m, m = 2 ^ h := ⟨_, rfl⟩
  have hm1 : 1 ≤ m ∧ m ≤ 1024 := by rw [hm]; exact ⟨Nat.one_le_two_pow, (big_cast h (by omega)).2⟩
  have hsh1 := big_sh1 h (by omega)
  have hsh2 := big_sh2 h (by omega)
  have hsh3 := big_sh3 h (by omega)
  have hand := and_mask n h hn2 (by omega)
  rw [← hm] at hsh1 hsh2 hsh3 hand
  obtain ⟨i1, i2⟩ := mask_wrap m hm1
  generalize m - 1 = m1 at *
  obtain ⟨r, hr⟩ : ∃ r, r = n % m := ⟨_, rfl⟩
  rw [← hr] at hand
  have HR := Lib.hid (And.intro hm hr)
  clear hr
  obtain ⟨I, hI⟩ : ∃ I, I = R2.take 16 := ⟨_, rfl⟩
  have hIl : I.length = 16 := by rw [hI, List.length_take, hl2]; rfl
  have HCV4 : Hid (∀ w : World, w.heap[g4]? = some (Obj.cells (u8s R2).toArray 62 (0, 0)) → (convert 65 9 (.slice (some ⟨g4, 0, none⟩) 16 32)).run Try.prog w = .ok (.string (bstr I)) w) := Lib.hid fun w hw => by
    refine conv_cells (P := Try.prog) w 65 5 9 Try.underlying65 Try.underlying5 Try.underlying9 g4 0 16 32 I hIl (fun i hi => ?_)
    rw [Nat.zero_add, cell_of_row w g4 i _ _ _ hw, hI]
    simp [u8s, List.getD, hi, show i < R2.length by omega]
  have HCV6 : Hid (∀ w : World, w.heap[g6]? = some (Obj.cells (u8s R3).toArray 62 (0, 0)) → (convert 65 9 (.slice (some ⟨g6, 0, none⟩) 32 32)).run Try.prog w = .ok (.string (bstr R3)) w) := Lib.hid fun w hw => conv_block (P := Try.prog) w 65 5 9 62 (0, 0) Try.underlying65 Try.underlying5 Try.underlying9 g6 32 R3 32 hl3 hw
  have HI := Lib.hid hI
  clear hI hIl hl2 hl3
  clear hm
  go_wp2_with fail
  refine wp_region_G (S := fun w' => Turn (fun k => k = g2) w7 w' ∧ Held [(g1, Obj.cells C.toArray 23 (0, 0)), (g4, Obj.cells (u8s R2).toArray 62 (0, 0)), (g6, Obj.cells (u8s R3).toArray 62 (0, 0))] w') (T := StoreAt 16 g2 (Obj.cells (lkC LKey0).toArray 68 (0, 0)) (Obj.cells (lkC ⟨ots, (h : Int), I, R3, ((r : Nat) : Int)⟩).toArray 68 (0, 0))) (by kernel_rfl) ⟨(Turn.refl _ _).drew, held_cons (show w7.drew.heap[_]? = _ from D1.out) (held_cons (show w7.drew.heap[_]? = _ from D4.out) (held_cons (show w7.drew.heap[_]? = _ from D6.out) (held_nil _)))⟩ (show w7.drew.heap[g2]? = _ from D2.out) ?_
  have HG := Grow.store w7 [(g1, Obj.cells C.toArray 23 (0, 0)), (g4, Obj.cells (u8s R2).toArray 62 (0, 0)), (g6, Obj.cells (u8s R3).toArray 62 (0, 0))] 16 g2 (Obj.cells (lkC LKey0).toArray 68 (0, 0)) (Obj.cells (lkC ⟨ots, (h : Int), I, R3, ((r : Nat) : Int)⟩).toArray 68 (0, 0))
  refine atN 0 ?_
  iterate 5
    refine anyG_y HG (v := ?_) rfl (by kernel_rfl) (fun _ _ _ h => h) (StoreAt.ins (by decide)) (Or.inl ⟨by rfl, fun w hSw => ?_⟩) ?_
    rotate_left
    · skip
      obtain ⟨s0, s1, s2, s3, s4⟩ := HC.out _ _ hSw.2.head
      first | (go_simp; done) | (go_simp; with_reducible rfl)
    simp only [Nat.reduceAdd, AP]
  iterate 1
    refine anyG_y HG (v := ?_) rfl (by kernel_rfl) (fun _ _ _ h => h) (StoreAt.ins (by decide)) (Or.inl ⟨by rfl, fun w hSw => ?_⟩) ?_
    rotate_left
    · skip
      have hcv := HCV4.out w hSw.2.tail.head
      first | (go_simp; done) | (go_simp; with_reducible rfl)
    simp only [Nat.reduceAdd, AP]
  iterate 1
    refine anyG_y HG (v := ?_) rfl (by kernel_rfl) (fun _ _ _ h => h) (StoreAt.ins (by decide)) (Or.inl ⟨by rfl, fun w hSw => ?_⟩) ?_
    rotate_left
    · skip
      first | (go_simp; done) | (go_simp; with_reducible rfl)
    simp only [Nat.reduceAdd, AP]
  iterate 1
    refine anyG_y HG (v := ?_) rfl (by kernel_rfl) (fun _ _ _ h => h) (StoreAt.ins (by decide)) (Or.inl ⟨by rfl, fun w hSw => ?_⟩) ?_
    rotate_left
    · skip
      have hcv := HCV6.out w hSw.2.tail.tail.head
      first | (go_simp; done) | (go_simp; with_reducible rfl)
    simp only [Nat.reduceAdd, AP]
  iterate 8
    refine anyG_y HG (v := ?_) rfl (by kernel_rfl) (fun _ _ _ h => h) (StoreAt.ins (by decide)) (Or.inl ⟨by rfl, fun w hSw => ?_⟩) ?_
    rotate_left
    · skip
      obtain ⟨s0, s1, s2, s3, s4⟩ := HC.out _ _ hSw.2.head
      first | (go_simp; done) | (go_simp; with_reducible rfl)
    simp only [Nat.reduceAdd, AP]
  refine anyG_store (i := 16) (by kernel_rfl) rfl rfl rfl rfl rfl rfl infoLK (lkC_one _) (by intro p hp; simp only [List.mem_cons, List.mem_nil_iff, or_false] at hp; rcases hp with rfl | rfl | rfl; exact n12; exact Ne.symm N24.out; exact Ne.symm N26.out) ?_
  simp only [Act.put]
  refine anyG_done (by kernel_rfl) (fun w8 hS hT => ?_) _
  obtain ⟨hpS, hS⟩ := hS
  clear HG
  have PT := Lib.hid (PT.out.newer hpS l2)
  have D2 := Lib.hid (show w8.heap[g2]? = _ from hT)
  clear hS hT hpS
  go_wp2
  exact bodyPost_ret (v := .agg (lkC ⟨ots, (h : Int), I, R3, ((r : Nat) : Int)⟩).toArray) (results_cell_row Try.results39 _ _ g2 _ _ _ _ rfl D2.out Try.underlying68 rfl infoLK) rfl ⟨by rw [HI.out, HR.out.2, HR.out.1], PT.out⟩
end Go.Proofs.Ytcfbmbhkdicpfaa
