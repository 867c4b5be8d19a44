/- Chapter 5: what may not be: the walk of the law LmsForms. -/
import Derived.Test.YtmifchdmlbcclaaLmsO
import Derived.Test.YtmifchdmlbcclaaRow8
namespace Go.Proofs.Ytmifchdmlbcclaa
open Go.RowKit

theorem verify_size {h o t : Nat} (h1 : 1 ≤ h) (h5 : h ≤ 5) (ho : o = 3 ∨ o = 4) (ht : typeV (h : Int) = (t : Int)) (ht2 : t < 4294967296) {id root sign : List UInt8} (msg : List UInt8) (hid : id.length = 16) (hr : root.length = 32) (hne : sign.length ≠ 8 + otsSize (o : Int) + 32 * h) :
    verifyV (beB t 4 ++ beB o 4 ++ id ++ root) msg sign = 500 := by
  have hps : pkSize ⟨h, (o : Int), id, root⟩ = 8 + otsSize (o : Int) + 32 * h := rfl
  have hp : partsV ⟨h, (o : Int), id, root⟩ sign = (Parts0, false) := by rw [partsV, if_neg (by rw [hps]; exact hne)]
  rw [verifyV, apart_public h1 h5 ho ht ht2 hid hr, if_pos rfl, hp, if_neg (by simp)]
theorem verify_len {p : List UInt8} (msg sign : List UInt8) (h : p.length ≠ 56) : verifyV p msg sign = 500 := by
  rw [verifyV, apartV, if_neg h, if_neg (by simp)]
theorem size3 : otsSize ((3 : Nat) : Int) = 2180 := rfl
theorem size4 : otsSize ((4 : Nat) : Int) = 1124 := rfl
/-- The key of the law. -/
def keyF : LKey := keyN [102] 0 0
theorem keyF_may : lmayB keyF = true := keyN_may [102] (b := 0) (by decide) (Nat.zero_le _)
theorem keyF_pub : ∃ id root, id.length = 16 ∧ root.length = 32 ∧ (lpubV keyF).1 = [240, 0, 0, 1] ++ ([0, 0, 0, 3] ++ (id ++ root)) := by
  refine ⟨keyF.id, nodeN keyF.id (pubF keyF) (2 ^ keyF.height.toNat) 1, filledV_length _ _, nodeN_length _ _ _ _, ?_⟩
  rw [lpubV, if_pos keyF_may]
  have h1 : beB (typeV keyF.height).toNat 4 = [240, 0, 0, 1] := by decide +kernel
  have h2 : beB keyF.ots.toNat 4 = [0, 0, 0, 3] := by decide +kernel
  rw [h1, h2]
  simp only [List.append_assoc]
theorem keyF_sign : ∃ sg path, sg.length = 2180 ∧ path.length = 32 ∧ (lsignV keyF [109]).1 = [0, 0, 0, 0] ++ (sg ++ ([240, 0, 0, 1] ++ path)) := by
  have h1 : kindB 3 = true := rfl
  have h2 : placeB keyF.id ((0 : Nat) : Int) = true := decide_eq_true ⟨filledV_length _ _, by decide⟩
  have h3 : keyF.seed.length = 32 := filledV_length _ _
  have hsv : (signV keyF.ots keyF.id keyF.next keyF.seed [109]).1 = otsSignV 3 4 67 4 (placeV keyF.id 0) keyF.seed [109] := by
    show (signV 3 keyF.id ((0 : Nat) : Int) keyF.seed [109]).1 = _
    rw [signV, if_pos ⟨h1, h2, h3, by decide⟩]
    rfl
  refine ⟨otsSignV 3 4 67 4 (placeV keyF.id 0) keyF.seed [109], sideV (nodeN keyF.id (pubF keyF) (2 ^ keyF.height.toNat)) (2 ^ keyF.height.toNat + keyF.next.toNat) keyF.height.toNat, otsSign_length _ _ _ _ _ _ _, by rw [sideV_length (fun i => nodeN_length _ _ _ _)]; rfl, ?_⟩
  rw [lsignV, if_pos ⟨keyF_may, by decide⟩, if_neg (by decide), hsv]
  have e1 : beB keyF.next.toNat 4 = [0, 0, 0, 0] := by decide +kernel
  have e2 : beB (typeV keyF.height).toNat 4 = [240, 0, 0, 1] := by decide +kernel
  rw [e1, e2]
  simp only [List.append_assoc]
theorem n4_four (a b c d : UInt8) (t : List UInt8) : n4 ([a, b, c, d] ++ t) = n4 [a, b, c, d] := by
  unfold n4; rw [List.take_append_of_le_length (by simp)]
theorem forms_sz {P S : List UInt8} (hP : ∃ id root, id.length = 16 ∧ root.length = 32 ∧ P = [240, 0, 0, 1] ++ ([0, 0, 0, 3] ++ (id ++ root))) (hS : S.length ≠ 2220) : verifyV P [109] S = 500 := by
  obtain ⟨id, root, h1, h2, rfl⟩ := hP
  have := verify_size (h := 1) (o := 3) (t := 4026531841) (by decide) (by decide) (Or.inl rfl) rfl (by decide) (sign := S) [109] h1 h2 (by rw [size3]; exact hS)
  rwa [show beB 4026531841 4 = [240, 0, 0, 1] from by decide, show beB 3 4 = [0, 0, 0, 3] from by decide, List.append_assoc, List.append_assoc] at this
theorem forms_0 {P S : List UInt8} (hP : ∃ id root, id.length = 16 ∧ root.length = 32 ∧ P = [240, 0, 0, 1] ++ ([0, 0, 0, 3] ++ (id ++ root))) (hS : S.length = 2220) : verifyV (P.take 7 ++ [4] ++ P.drop 8) [109] S = 500 := by
  obtain ⟨id, root, h1, h2, rfl⟩ := hP
  have := verify_size (h := 1) (o := 4) (t := 4026531841) (by decide) (by decide) (Or.inr rfl) rfl (by decide) (sign := S) [109] h1 h2 (by rw [size4]; omega)
  rw [show beB 4026531841 4 = [240, 0, 0, 1] from by decide, show beB 4 4 = [0, 0, 0, 4] from by decide, List.append_assoc, List.append_assoc] at this
  exact this
theorem forms_1 {P S : List UInt8} (hP : ∃ id root, id.length = 16 ∧ root.length = 32 ∧ P = [240, 0, 0, 1] ++ ([0, 0, 0, 3] ++ (id ++ root))) (hS : S.length = 2220) : verifyV (P.take 3 ++ [2] ++ P.drop 4) [109] S = 500 := by
  obtain ⟨id, root, h1, h2, rfl⟩ := hP
  have := verify_size (h := 2) (o := 3) (t := 4026531842) (by decide) (by decide) (Or.inl rfl) rfl (by decide) (sign := S) [109] h1 h2 (by rw [size3]; omega)
  rw [show beB 4026531842 4 = [240, 0, 0, 2] from by decide, show beB 3 4 = [0, 0, 0, 3] from by decide, List.append_assoc, List.append_assoc] at this
  exact this
theorem forms_3 {P S : List UInt8} {d : Nat} (hd : d ≤ 8) (hd1 : 1 ≤ d) (hP : ∃ id root, id.length = 16 ∧ root.length = 32 ∧ P = [240, 0, 0, 1] ++ ([0, 0, 0, 3] ++ (id ++ root)))
    (hS : ∃ sg path, sg.length = 2180 ∧ path.length = 32 ∧ S = [0, 0, 0, 0] ++ (sg ++ ([240, 0, 0, 1] ++ path))) : verifyV P [109] (S.take 3 ++ [UInt8.ofNat (1 + d)] ++ S.drop 4) = 500 := by
  obtain ⟨id, root, h1, h2, rfl⟩ := hP
  obtain ⟨sg, path, h3, h4, rfl⟩ := hS
  have ea : [240, 0, 0, 1] ++ ([0, 0, 0, 3] ++ (id ++ root)) = beB 4026531841 4 ++ beB 3 4 ++ id ++ root := by
    rw [show beB 4026531841 4 = [240, 0, 0, 1] from by decide, show beB 3 4 = [0, 0, 0, 3] from by decide, List.append_assoc, List.append_assoc]
  have eb : ([0, 0, 0, 0] ++ (sg ++ ([240, 0, 0, 1] ++ path))).take 3 ++ [UInt8.ofNat (1 + d)] ++ ([0, 0, 0, 0] ++ (sg ++ ([240, 0, 0, 1] ++ path))).drop 4 = [0, 0, 0, UInt8.ofNat (1 + d)] ++ (sg ++ ([240, 0, 0, 1] ++ path)) := rfl
  have en : n4 ([0, 0, 0, UInt8.ofNat (1 + d)] ++ (sg ++ ([240, 0, 0, 1] ++ path))) = 1 + d := by
    rw [n4_four]
    rcases (by omega : d = 1 ∨ d = 2 ∨ d = 3 ∨ d = 4 ∨ d = 5 ∨ d = 6 ∨ d = 7 ∨ d = 8) with rfl | rfl | rfl | rfl | rfl | rfl | rfl | rfl <;> decide
  rw [eb, ea, verifyV, apart_public (h := 1) (by decide) (by decide) (Or.inl rfl) rfl (by decide) h1 h2, if_pos rfl, if_neg]
  intro hh
  have hh := hh.1
  unfold partsV at hh
  split at hh
  · simp only [Bool.and_eq_true, decide_eq_true_eq] at hh
    have := hh.2
    rw [en] at this
    omega
  · simp at hh
theorem lpub_bad {k : LKey} (h : lmayB k = false) : lpubV k = ([], 500) := by rw [lpubV, if_neg (by rw [h]; simp)]
theorem lsign_bad {k : LKey} (h : lmayB k = false) (msg : List UInt8) : lsignV k msg = ([], LKey0, 500) := by rw [lsignV, if_neg (fun hh => by rw [h] at hh; simp at hh)]
theorem and7 (x : Int) : ∃ H : Nat, H ≤ 7 ∧ bits .and .i64 x 7 = (H : Int) := by
  have hle : (BitVec.ofInt 64 x &&& BitVec.ofInt 64 7).toNat ≤ 7 := by
    rw [BitVec.toNat_and]
    exact Nat.le_trans Nat.and_le_right (by decide)
  refine ⟨(BitVec.ofInt 64 x &&& BitVec.ofInt 64 7).toNat, hle, ?_⟩
  show IntKind.i64.wrap (((BitVec.ofInt 64 x &&& BitVec.ofInt 64 7).toNat : Nat) : Int) = _
  exact IntWalk.i64_in _ (by omega)
theorem rem6 (x : Int) : ∃ a : Nat, a < 6 ∧ (IntKind.u64.wrap x).tmod 6 = (a : Int) := by
  have h0 : 0 ≤ IntKind.u64.wrap x := by rw [IntKind.wrap_u64]; omega
  obtain ⟨y, hy⟩ : ∃ y : Nat, IntKind.u64.wrap x = (y : Int) := ⟨(IntKind.u64.wrap x).toNat, by omega⟩
  refine ⟨y % 6, Nat.mod_lt _ (by omega), ?_⟩
  rw [hy, Int.tmod_eq_emod_of_nonneg (by omega)]
  omega

set_option maxRecDepth 100000 in
set_option maxHeartbeats 4000000 in
theorem lmsForms_walk (wh x : Int) (w : World) : Calls Try.prog 12 #[.int .i64 wh, .int .i64 x] w fun e w' => e = .returned (.bool true) ∧ Pure w w' := by
  obtain ⟨H, hH, hand⟩ := and7 x
  obtain ⟨c, hc6, hrem⟩ := rem6 wh
  obtain ⟨d, hd⟩ : ∃ d, d = 1 + H := ⟨_, rfl⟩
  have hd1 : 1 ≤ d ∧ d ≤ 8 := by omega
  have i0 : IntKind.i64.wrap (1 + (H : Int)) = (d : Int) := by rw [IntWalk.i64_in _ (by omega)]; omega
  clear hd hH
  have hky := fun W => Key5_any W [102] 0 0 (by decide) rfl
  have e0 : keyV [102] 0 = keyF := rfl
  rw [e0] at hky
  have hpu := fun W => LPublic_any W keyF
  have hsi := fun W => LSign_any W keyF [109]
  rw [lpub_ok keyF_may] at hpu
  have hnx : (lsignV keyF [109]).2 = (keyN [102] 0 1, 0) := keyN_sign [102] (b := 0) (i := 0) (by decide) (by decide) (by decide)
  rw [hnx] at hsi
  have hP := keyF_pub
  have hS := keyF_sign
  have hPl := lpub_length keyF_may
  have hSl : (lsignV keyF [109]).1.length = 2220 := by obtain ⟨sg, path, h1, h2, h3⟩ := hS; rw [h3]; simp [h1, h2]
  have hNl := lkC_one (keyN [102] 0 1)
  generalize keyN [102] 0 1 = N1 at *
  generalize (lpubV keyF).1 = P at *
  generalize (lsignV keyF [109]).1 = S at *
  have HKY := Lib.hid hky; have HPU := Lib.hid hpu; have HSI := Lib.hid hsi; have HNL := Lib.hid hNl
  obtain ⟨n, hn⟩ : ∃ n, n = 2220 := ⟨_, rfl⟩
  have zP : (bstr P).size = 56 := by rw [bstr_size, hPl]
  have zS : (bstr S).size = n := by rw [bstr_size, hSl, hn]
  have q1 : ¬ ((n : Int) < 100) := by omega
  have HN := Lib.hid hn; have HP := Lib.hid hP; have HS := Lib.hid hS; have HPL := Lib.hid hPl; have HSL := Lib.hid hSl
  clear hky hpu hsi hP hS hPl hSl hNl hn hnx e0
  have PT := Lib.hid (Turn.refl (fun _ => False) w)
  go_enter Try.func12, Try.ntmps12
  go_wp2_with fail
  refine (awake5 _).mono ?_
  rintro e w1 ⟨rfl, t1⟩
  have PT := Lib.hid (PT.out.pure t1)
  clear t1
  go_wp2_with fail
  refine (HKY.out _).mono ?_
  rintro e w2 ⟨rfl, t2⟩
  have PT := Lib.hid (PT.out.pure t2)
  clear t2
  go_wp2_with (refine wpList_allocZ rfl 45 rfl _ zeroLK ?_)
  intro g5 w3 e0 c0 t0 s0
  have l5 : w.heap.size ≤ g5 := by have := PT.out.size; omega
  clear e0 s0
  go_wp2_with (refine wpList_store_blk rfl 45 _ _ rfl g5 _ (lkC keyF) _ rfl rfl c0 rfl infoLK (lkC_one _) ?_)
  intro w3x d0 t1 s1
  clear s1
  have D5 := Lib.hid d0; have PT := Lib.hid ((PT.out.pure t0).newer t1 l5)
  clear c0 t0 d0 t1
  have R1 := range_of_row D5.out
  go_wp2_with (refine wpList_load_mid rfl 45 _ rfl g5 0 rfl (lkC keyF) _ R1 Try.underlying45 rfl infoLK ?_)
  clear R1
  refine (HPU.out _).mono ?_
  rintro e w4 ⟨rfl, t4⟩
  have D5 := Lib.hid (t4.obj D5.out (fun e => e)); have PT := Lib.hid (PT.out.pure t4)
  clear t4
  have R1 := range_of_row D5.out
  go_wp2_with (refine wpList_load_mid rfl 45 _ rfl g5 0 rfl (lkC keyF) _ R1 Try.underlying45 rfl infoLK ?_)
  clear R1
  refine (HSI.out _).mono ?_
  rintro e w5 ⟨rfl, t5⟩
  have D5 := Lib.hid (t5.obj D5.out (fun e => e)); have PT := Lib.hid (PT.out.pure t5)
  clear t5
  go_wp2_with (refine wpList_allocZ rfl 45 rfl _ zeroLK ?_)
  intro g9 w6 e0 c0 t0 s0
  have l9 : w.heap.size ≤ g9 := by have := PT.out.size; omega
  have n5_9 : g5 ≠ g9 := by have := (Array.getElem?_eq_some_iff.1 D5.out).1; omega
  clear e0 s0
  go_wp2_with (refine wpList_store_blk rfl 45 _ _ rfl g9 _ (lkC N1) _ rfl rfl c0 rfl infoLK HNL.out ?_)
  intro w6x d0 t1 s1
  clear s1
  have D5 := Lib.hid (t1.obj (t0.obj D5.out (fun e => e)) n5_9)
  have D9 := Lib.hid d0; have PT := Lib.hid ((PT.out.pure t0).newer t1 l9)
  clear c0 t0 d0 t1
  clear n5_9 l9 D9 l5
  have R1 := range_of_row D5.out
  go_wp2_with (first | (refine (Num9_any _ _).mono ?_; rintro e wn ⟨rfl, rfl⟩) | (refine wpList_load_mid rfl 45 _ rfl g5 0 rfl (lkC keyF) _ R1 Try.underlying45 rfl infoLK ?_) | (refine wpList_allocZ rfl 45 rfl _ zeroLK ?_))
  clear R1 D5
  intro g12 w7 e0 c0 t0 s0
  have l12 : w.heap.size ≤ g12 := by have := PT.out.size; omega
  clear e0 s0
  go_wp2_with (refine wpList_store_blk rfl 45 _ _ rfl g12 _ (lkC keyF) _ rfl rfl c0 rfl infoLK (lkC_one _) ?_)
  intro w7x d0 t1 s1
  clear s1
  have D12 := Lib.hid d0; have PT := Lib.hid ((PT.out.pure t0).newer t1 l12)
  clear c0 t0 d0 t1
  rcases (by omega : c = 0 ∨ c = 1 ∨ c = 2 ∨ c = 3 ∨ c = 4 ∨ c = 5) with rfl | rfl | rfl | rfl | rfl | rfl
  · have hr : (IntKind.u64.wrap wh).tmod 6 = 0 := hrem
    clear hrem hc6
    obtain ⟨X1, hX1⟩ : ∃ X1, X1 = P.take 7 := ⟨_, rfl⟩
    obtain ⟨X2, hX2⟩ : ∃ X2, X2 = P.drop 8 := ⟨_, rfl⟩
    obtain ⟨X3, hX3⟩ : ∃ X3, X3 = X1 ++ [4] := ⟨_, rfl⟩
    obtain ⟨X4, hX4⟩ : ∃ X4, X4 = X3 ++ X2 := ⟨_, rfl⟩
    have lX1 : X1.length = 7 := by have := HPL.out; rw [hX1, List.length_take]; omega
    have lX2 : X2.length = 56 - 8 := by have := HPL.out; rw [hX2, List.length_drop]; omega
    have lX4 : X4.length = 56 := by rw [hX4, List.length_append, hX3, List.length_append, lX1, lX2]; rfl
    have ex1 : (bstr P).extract 0 7 = bstr X1 := by rw [bstr_ext, hX1]; rfl
    have ex2 : (bstr P).extract 8 56 = bstr X2 := by rw [bstr_ext, hX2, List.take_of_length_le (by have := HPL.out; omega)]
    have ap2 : bstr X3 ++ bstr X2 = bstr X4 := by rw [hX4]; exact bstr_app _ _
    have zX1 : (bstr X1).size = 7 := by rw [bstr_size, lX1]
    have zX2 : (bstr X2).size = 56 - 8 := by rw [bstr_size, lX2]
    have zX3 : (bstr X3).size = 7 + 1 := by rw [bstr_size, hX3, List.length_append, lX1]; rfl
    have ver : verifyV X4 [109] S = 500 := by rw [hX4, hX3, hX1, hX2]; exact forms_0 HP.out HSL.out
    have hpb := fun W => LPublic_any W { keyF with ots := 4 + (d : Int) }
    have hsb := fun W => LSign_any W { keyF with ots := 4 + (d : Int) } [109]
    have hvb := fun W => LVerify_any W X4 [109] S (by omega) (by have := HSL.out; omega)
    have hmb : lmayB { keyF with ots := 4 + (d : Int) } = false := by have : kindB (4 + (d : Int)) = false := decide_eq_false (by omega); simp [lmayB, this]
    rw [lpub_bad hmb] at hpb
    rw [lsign_bad hmb] at hsb
    rw [ver] at hvb
    obtain ⟨BK, hBK⟩ : ∃ BK : LKey, BK = { keyF with ots := 4 + (d : Int) } := ⟨_, rfl⟩
    rw [← hBK] at hpb hsb
    have HPB := Lib.hid hpb; have HSB := Lib.hid hsb; have HVB := Lib.hid hvb; have HBK := Lib.hid hBK
    clear hpb hsb hvb hmb hBK
    have ap1 : bstr X1 ++ (⟨#[4]⟩ : ByteArray) = bstr X3 := by rw [hX3]; exact bstr_app X1 [4]
    clear hX1 hX2 hX3 hX4 lX1 lX2 lX4 ver
    have j1 : IntKind.i64.wrap (4 + (d : Int)) = 4 + (d : Int) := IntWalk.i64_in _ (by omega)
    obtain ⟨k0, k1, k2, k3, k4⟩ := lk_cells D12.out
    have fz : w7x.frozen? ⟨g12, 0, none⟩ = false := frozen_of_row w7x g12 0 _ _ D12.out
    obtain ⟨d2, t2, _⟩ := setAt (i := 0) (v := .int .i64 (4 + (d : Int))) D12.out (by show 0 < 5; omega)
    rw [show (lkC keyF).take 0 ++ [.int .i64 (4 + (d : Int))] ++ (lkC keyF).drop 1 = lkC { keyF with ots := 4 + (d : Int) } from rfl] at d2
    have D12 := Lib.hid d2; have PT := Lib.hid (PT.out.newer t2 l12)
    clear d2 t2
    rw [← HBK.out] at D12
    go_wp2_with fail
    clear k0 k1 k2 k3 k4 fz
    generalize w7x.setCell ⟨g12, 0, none⟩ (.int .i64 (4 + (d : Int))) = w8 at *
    refine wp_region_G (S := fun w' => Pure w8 w' ∧ Held [(g12, Obj.cells (lkC BK).toArray 45 (0, 0))] w') (T := fun _ _ _ => True) (by kernel_rfl) ⟨(Turn.refl _ _).drew, held_cons (show w8.drew.heap[_]? = _ from D12.out) (held_nil _)⟩ trivial ?_
    have HG := Grow.held w8 [(g12, Obj.cells (lkC BK).toArray 45 (0, 0))]
    refine atN 0 ?_
    iterate 7
      refine anyG_y HG (v := ?_) rfl (by kernel_rfl) (fun _ _ _ h => h) (fun _ _ _ => Iff.rfl) (Or.inl ⟨by rfl, fun w hSw => ?_⟩) ?_
      rotate_left
      · skip
        first | (go_simp; done) | (go_simp; with_reducible rfl)
      simp only [Nat.reduceAdd, List.getElem_toArray, List.getElem_cons_succ, List.getElem_cons_zero, Act.put, List.setIfInBounds_toArray, List.set_cons_zero, List.set_cons_succ]
    refine anyG_done (by kernel_rfl) (fun w9 hS _ => ?_) _
    obtain ⟨hpS, hS⟩ := hS
    clear HG
    have PT := Lib.hid (PT.out.pure hpS)
    have D12 := Lib.hid hS.head
    clear hS hpS
    have R1 := range_of_row D12.out
    go_wp2_with (refine wpList_load_mid rfl 45 _ rfl g12 0 rfl (lkC BK) _ R1 Try.underlying45 rfl infoLK ?_)
    clear R1
    refine (HPB.out _).mono ?_
    rintro e w11 ⟨rfl, t11⟩
    have D12 := Lib.hid (t11.obj D12.out (fun e => e)); have PT := Lib.hid (PT.out.pure t11)
    clear t11
    have R1 := range_of_row D12.out
    go_wp2_with (refine wpList_load_mid rfl 45 _ rfl g12 0 rfl (lkC BK) _ R1 Try.underlying45 rfl infoLK ?_)
    clear R1
    refine (HSB.out _).mono ?_
    rintro e w12 ⟨rfl, t12⟩
    have PT := Lib.hid (PT.out.pure t12)
    clear t12
    go_wp2_with (refine wpList_allocZ rfl 45 rfl _ zeroLK ?_)
    intro g16 w13 e0 c0 t0 s0
    have l16 : w.heap.size ≤ g16 := by have := PT.out.size; omega
    clear e0 s0
    go_wp2_with (refine wpList_store_blk rfl 45 _ _ rfl g16 _ (lkC LKey0) _ rfl rfl c0 rfl infoLK (lkC_one _) ?_)
    intro w13x d0 t1 s1
    clear s1
    have D16 := Lib.hid d0; have PT := Lib.hid ((PT.out.pure t0).newer t1 l16)
    clear c0 t0 d0 t1
    go_wp2_with fail
    refine (HVB.out _).mono ?_
    rintro e w14 ⟨rfl, t14⟩
    have PT := Lib.hid (PT.out.pure t14)
    clear t14
    go_wp2_with (refine (Num9_any _ _).mono ?_; rintro e wn ⟨rfl, rfl⟩)
    go_ret
    exact ⟨rfl, PT.out⟩
  · have hr : (IntKind.u64.wrap wh).tmod 6 = 1 := hrem
    clear hrem hc6
    obtain ⟨X1, hX1⟩ : ∃ X1, X1 = P.take 3 := ⟨_, rfl⟩
    obtain ⟨X2, hX2⟩ : ∃ X2, X2 = P.drop 4 := ⟨_, rfl⟩
    obtain ⟨X3, hX3⟩ : ∃ X3, X3 = X1 ++ [2] := ⟨_, rfl⟩
    obtain ⟨X4, hX4⟩ : ∃ X4, X4 = X3 ++ X2 := ⟨_, rfl⟩
    have lX1 : X1.length = 3 := by have := HPL.out; rw [hX1, List.length_take]; omega
    have lX2 : X2.length = 56 - 4 := by have := HPL.out; rw [hX2, List.length_drop]; omega
    have lX4 : X4.length = 56 := by rw [hX4, List.length_append, hX3, List.length_append, lX1, lX2]; rfl
    have ex1 : (bstr P).extract 0 3 = bstr X1 := by rw [bstr_ext, hX1]; rfl
    have ex2 : (bstr P).extract 4 56 = bstr X2 := by rw [bstr_ext, hX2, List.take_of_length_le (by have := HPL.out; omega)]
    have ap2 : bstr X3 ++ bstr X2 = bstr X4 := by rw [hX4]; exact bstr_app _ _
    have zX1 : (bstr X1).size = 3 := by rw [bstr_size, lX1]
    have zX2 : (bstr X2).size = 56 - 4 := by rw [bstr_size, lX2]
    have zX3 : (bstr X3).size = 3 + 1 := by rw [bstr_size, hX3, List.length_append, lX1]; rfl
    have ver : verifyV X4 [109] S = 500 := by rw [hX4, hX3, hX1, hX2]; exact forms_1 HP.out HSL.out
    have hpb := fun W => LPublic_any W { keyF with height := -(d : Int) + 1 }
    have hsb := fun W => LSign_any W { keyF with height := -(d : Int) + 1 } [109]
    have hvb := fun W => LVerify_any W X4 [109] S (by omega) (by have := HSL.out; omega)
    have hmb : lmayB { keyF with height := -(d : Int) + 1 } = false := by have : decide (1 ≤ -(d : Int) + 1) = false := decide_eq_false (by omega); simp [lmayB, this]
    rw [lpub_bad hmb] at hpb
    rw [lsign_bad hmb] at hsb
    rw [ver] at hvb
    obtain ⟨BK, hBK⟩ : ∃ BK : LKey, BK = { keyF with height := -(d : Int) + 1 } := ⟨_, rfl⟩
    rw [← hBK] at hpb hsb
    have HPB := Lib.hid hpb; have HSB := Lib.hid hsb; have HVB := Lib.hid hvb; have HBK := Lib.hid hBK
    clear hpb hsb hvb hmb hBK
    have ap1 : bstr X1 ++ (⟨#[2]⟩ : ByteArray) = bstr X3 := by rw [hX3]; exact bstr_app X1 [2]
    clear hX1 hX2 hX3 hX4 lX1 lX2 lX4 ver
    have j1 : IntKind.i64.wrap (-(d : Int)) = -(d : Int) := IntWalk.i64_in _ (by omega)
    have j2 : IntKind.i64.wrap (-(d : Int) + 1) = -(d : Int) + 1 := IntWalk.i64_in _ (by omega)
    obtain ⟨k0, k1, k2, k3, k4⟩ := lk_cells D12.out
    have fz : w7x.frozen? ⟨g12, 1, none⟩ = false := frozen_of_row w7x g12 1 _ _ D12.out
    obtain ⟨d2, t2, _⟩ := setAt (i := 1) (v := .int .i64 (-(d : Int) + 1)) D12.out (by show 1 < 5; omega)
    rw [show (lkC keyF).take 1 ++ [.int .i64 (-(d : Int) + 1)] ++ (lkC keyF).drop 2 = lkC { keyF with height := -(d : Int) + 1 } from rfl] at d2
    have D12 := Lib.hid d2; have PT := Lib.hid (PT.out.newer t2 l12)
    clear d2 t2
    rw [← HBK.out] at D12
    go_wp2_with fail
    clear k0 k1 k2 k3 k4 fz
    generalize w7x.setCell ⟨g12, 1, none⟩ (.int .i64 (-(d : Int) + 1)) = w8 at *
    refine wp_region_G (S := fun w' => Pure w8 w' ∧ Held [(g12, Obj.cells (lkC BK).toArray 45 (0, 0))] w') (T := fun _ _ _ => True) (by kernel_rfl) ⟨(Turn.refl _ _).drew, held_cons (show w8.drew.heap[_]? = _ from D12.out) (held_nil _)⟩ trivial ?_
    have HG := Grow.held w8 [(g12, Obj.cells (lkC BK).toArray 45 (0, 0))]
    refine atN 0 ?_
    iterate 7
      refine anyG_y HG (v := ?_) rfl (by kernel_rfl) (fun _ _ _ h => h) (fun _ _ _ => Iff.rfl) (Or.inl ⟨by rfl, fun w hSw => ?_⟩) ?_
      rotate_left
      · skip
        first | (go_simp; done) | (go_simp; with_reducible rfl)
      simp only [Nat.reduceAdd, List.getElem_toArray, List.getElem_cons_succ, List.getElem_cons_zero, Act.put, List.setIfInBounds_toArray, List.set_cons_zero, List.set_cons_succ]
    refine anyG_done (by kernel_rfl) (fun w9 hS _ => ?_) _
    obtain ⟨hpS, hS⟩ := hS
    clear HG
    have PT := Lib.hid (PT.out.pure hpS)
    have D12 := Lib.hid hS.head
    clear hS hpS
    have R1 := range_of_row D12.out
    go_wp2_with (refine wpList_load_mid rfl 45 _ rfl g12 0 rfl (lkC BK) _ R1 Try.underlying45 rfl infoLK ?_)
    clear R1
    refine (HPB.out _).mono ?_
    rintro e w11 ⟨rfl, t11⟩
    have D12 := Lib.hid (t11.obj D12.out (fun e => e)); have PT := Lib.hid (PT.out.pure t11)
    clear t11
    have R1 := range_of_row D12.out
    go_wp2_with (refine wpList_load_mid rfl 45 _ rfl g12 0 rfl (lkC BK) _ R1 Try.underlying45 rfl infoLK ?_)
    clear R1
    refine (HSB.out _).mono ?_
    rintro e w12 ⟨rfl, t12⟩
    have PT := Lib.hid (PT.out.pure t12)
    clear t12
    go_wp2_with (refine wpList_allocZ rfl 45 rfl _ zeroLK ?_)
    intro g16 w13 e0 c0 t0 s0
    have l16 : w.heap.size ≤ g16 := by have := PT.out.size; omega
    clear e0 s0
    go_wp2_with (refine wpList_store_blk rfl 45 _ _ rfl g16 _ (lkC LKey0) _ rfl rfl c0 rfl infoLK (lkC_one _) ?_)
    intro w13x d0 t1 s1
    clear s1
    have D16 := Lib.hid d0; have PT := Lib.hid ((PT.out.pure t0).newer t1 l16)
    clear c0 t0 d0 t1
    go_wp2_with fail
    refine (HVB.out _).mono ?_
    rintro e w14 ⟨rfl, t14⟩
    have PT := Lib.hid (PT.out.pure t14)
    clear t14
    go_wp2_with (refine (Num9_any _ _).mono ?_; rintro e wn ⟨rfl, rfl⟩)
    go_ret
    exact ⟨rfl, PT.out⟩
  · have hr : (IntKind.u64.wrap wh).tmod 6 = 2 := hrem
    clear hrem hc6
    obtain ⟨X4, hX4⟩ : ∃ X4, X4 = P.take 55 := ⟨_, rfl⟩
    have lX4 : X4.length = 55 := by have := HPL.out; rw [hX4, List.length_take]; omega
    have hpb := fun W => LPublic_any W { keyF with id := [120] }
    have hsb := fun W => LSign_any W { keyF with id := [120] } [109]
    have hvb := fun W => LVerify_any W X4 [109] S (by omega) (by have := HSL.out; omega)
    have hmb : lmayB { keyF with id := [120] } = false := by simp [lmayB]
    rw [lpub_bad hmb] at hpb
    rw [lsign_bad hmb] at hsb
    rw [verify_len [109] S (by omega)] at hvb
    obtain ⟨BK, hBK⟩ : ∃ BK : LKey, BK = { keyF with id := [120] } := ⟨_, rfl⟩
    rw [← hBK] at hpb hsb
    have HPB := Lib.hid hpb; have HSB := Lib.hid hsb; have HVB := Lib.hid hvb; have HBK := Lib.hid hBK
    clear hpb hsb hvb hmb hBK
    have ex1 : (bstr P).extract 0 55 = bstr X4 := by rw [bstr_ext, hX4]; rfl
    clear hX4 lX4
    obtain ⟨k0, k1, k2, k3, k4⟩ := lk_cells D12.out
    have fz : w7x.frozen? ⟨g12, 2, none⟩ = false := frozen_of_row w7x g12 2 _ _ D12.out
    obtain ⟨d2, t2, _⟩ := setAt (i := 2) (v := .string ⟨#[120]⟩) D12.out (by show 2 < 5; omega)
    rw [show (lkC keyF).take 2 ++ [.string ⟨#[120]⟩] ++ (lkC keyF).drop 3 = lkC { keyF with id := [120] } from rfl] at d2
    have D12 := Lib.hid d2; have PT := Lib.hid (PT.out.newer t2 l12)
    clear d2 t2
    rw [← HBK.out] at D12
    have R1 := range_of_row D12.out
    go_wp2_with (refine wpList_load_mid rfl 45 _ rfl g12 0 rfl (lkC BK) _ R1 Try.underlying45 rfl infoLK ?_)
    clear R1
    clear k0 k1 k2 k3 k4 fz
    generalize w7x.setCell ⟨g12, 2, none⟩ (.string ⟨#[120]⟩) = w8 at *
    refine (HPB.out _).mono ?_
    rintro e w11 ⟨rfl, t11⟩
    have D12 := Lib.hid (t11.obj D12.out (fun e => e)); have PT := Lib.hid (PT.out.pure t11)
    clear t11
    have R1 := range_of_row D12.out
    go_wp2_with (refine wpList_load_mid rfl 45 _ rfl g12 0 rfl (lkC BK) _ R1 Try.underlying45 rfl infoLK ?_)
    clear R1
    refine (HSB.out _).mono ?_
    rintro e w12 ⟨rfl, t12⟩
    have PT := Lib.hid (PT.out.pure t12)
    clear t12
    go_wp2_with (refine wpList_allocZ rfl 45 rfl _ zeroLK ?_)
    intro g16 w13 e0 c0 t0 s0
    have l16 : w.heap.size ≤ g16 := by have := PT.out.size; omega
    clear e0 s0
    go_wp2_with (refine wpList_store_blk rfl 45 _ _ rfl g16 _ (lkC LKey0) _ rfl rfl c0 rfl infoLK (lkC_one _) ?_)
    intro w13x d0 t1 s1
    clear s1
    have D16 := Lib.hid d0; have PT := Lib.hid ((PT.out.pure t0).newer t1 l16)
    clear c0 t0 d0 t1
    go_wp2_with fail
    refine (HVB.out _).mono ?_
    rintro e w14 ⟨rfl, t14⟩
    have PT := Lib.hid (PT.out.pure t14)
    clear t14
    go_wp2_with (refine (Num9_any _ _).mono ?_; rintro e wn ⟨rfl, rfl⟩)
    go_ret
    exact ⟨rfl, PT.out⟩
  · have hr : (IntKind.u64.wrap wh).tmod 6 = 3 := hrem
    clear hrem hc6
    obtain ⟨v, hv⟩ : ∃ v, v = UInt8.ofNat (1 + d) := ⟨_, rfl⟩
    obtain ⟨X1, hX1⟩ : ∃ X1, X1 = S.take 3 := ⟨_, rfl⟩
    obtain ⟨X2, hX2⟩ : ∃ X2, X2 = S.drop 4 := ⟨_, rfl⟩
    obtain ⟨X3, hX3⟩ : ∃ X3, X3 = X1 ++ [v] := ⟨_, rfl⟩
    obtain ⟨X4, hX4⟩ : ∃ X4, X4 = X3 ++ X2 := ⟨_, rfl⟩
    have lX1 : X1.length = 3 := by have := HSL.out; rw [hX1, List.length_take]; omega
    have lX2 : X2.length = 2220 - 4 := by have := HSL.out; rw [hX2, List.length_drop]; omega
    have lX4 : X4.length = 2220 := by rw [hX4, List.length_append, hX3, List.length_append, lX1, lX2]; rfl
    have ex1 : (bstr S).extract 0 3 = bstr X1 := by rw [bstr_ext, hX1]; rfl
    have ex2 : (bstr S).extract 4 n = bstr X2 := by rw [bstr_ext, hX2, List.take_of_length_le (by have := HSL.out; have := HN.out; omega)]
    have ap2 : bstr X3 ++ bstr X2 = bstr X4 := by rw [hX4]; exact bstr_app _ _
    have zX1 : (bstr X1).size = 3 := by rw [bstr_size, lX1]
    have zX2 : (bstr X2).size = 2220 - 4 := by rw [bstr_size, lX2]
    have zX3 : (bstr X3).size = 3 + 1 := by rw [bstr_size, hX3, List.length_append, lX1]; rfl
    have ver : verifyV P [109] X4 = 500 := by rw [hX4, hX3, hX1, hX2, hv]; exact forms_3 (by omega) (by omega) HP.out HS.out
    have hpb := fun W => LPublic_any W { keyF with seed := [] }
    have hsb := fun W => LSign_any W { keyF with seed := [] } [109]
    have hvb := fun W => LVerify_any W P [109] X4 (by have := HPL.out; omega) (by omega)
    have hmb : lmayB { keyF with seed := [] } = false := by simp [lmayB]
    rw [lpub_bad hmb] at hpb
    rw [lsign_bad hmb] at hsb
    rw [ver] at hvb
    obtain ⟨BK, hBK⟩ : ∃ BK : LKey, BK = { keyF with seed := [] } := ⟨_, rfl⟩
    rw [← hBK] at hpb hsb
    have HPB := Lib.hid hpb; have HSB := Lib.hid hsb; have HVB := Lib.hid hvb; have HBK := Lib.hid hBK
    clear hpb hsb hvb hmb hBK
    have ap1 : bstr X1 ++ bstr [v] = bstr X3 := by rw [hX3]; exact bstr_app X1 [v]
    have iv : IntKind.u8.wrap (1 + (d : Int)) = (v.toNat : Int) := by
      rw [hv]
      rcases (by omega : d = 1 ∨ d = 2 ∨ d = 3 ∨ d = 4 ∨ d = 5 ∨ d = 6 ∨ d = 7 ∨ d = 8) with e | e | e | e | e | e | e | e <;> rw [e] <;> rfl
    have i1 : IntKind.i64.wrap (1 + (d : Int)) = 1 + (d : Int) := IntWalk.i64_in _ (by omega)
    have zv : (bstr [v]).size = 1 := by rw [bstr_size]; rfl
    have b4 : (4 : Int) ≤ n := by have := HN.out; omega
    have b3 : (3 : Int) ≤ n := by omega
    clear hX1 hX2 hX3 hX4 lX1 lX2 lX4 ver hv
    obtain ⟨k0, k1, k2, k3, k4⟩ := lk_cells D12.out
    have fz : w7x.frozen? ⟨g12, 3, none⟩ = false := frozen_of_row w7x g12 3 _ _ D12.out
    obtain ⟨d2, t2, _⟩ := setAt (i := 3) (v := .string ⟨#[]⟩) D12.out (by show 3 < 5; omega)
    rw [show (lkC keyF).take 3 ++ [.string ⟨#[]⟩] ++ (lkC keyF).drop 4 = lkC { keyF with seed := [] } from rfl] at d2
    have D12 := Lib.hid d2; have PT := Lib.hid (PT.out.newer t2 l12)
    clear d2 t2
    rw [← HBK.out] at D12
    go_wp2_with fail
    clear k0 k1 k2 k3 k4 fz
    generalize w7x.setCell ⟨g12, 3, none⟩ (.string ⟨#[]⟩) = w8 at *
    refine wp_region_G (S := fun w' => Pure w8 w' ∧ Held [(g12, Obj.cells (lkC BK).toArray 45 (0, 0))] w') (T := NewSl 98 w8.heap.size (Obj.cells (u8s [v]).toArray 5 (0, 0))) (by kernel_rfl) ⟨(Turn.refl _ _).drew, held_cons (show w8.drew.heap[_]? = _ from D12.out) (held_nil _)⟩ (fun g h hB => nomatch h) ?_
    have HG := Grow.heldSl w8 [(g12, Obj.cells (lkC BK).toArray 45 (0, 0))] 98 w8.heap.size (Obj.cells (u8s [v]).toArray 5 (0, 0))
    refine atN 0 ?_
    iterate 5
      refine anyG_y HG (v := ?_) rfl (by kernel_rfl) (fun _ _ _ h => h) (NewSl.ins (by decide)) (Or.inl ⟨by rfl, fun w hSw => ?_⟩) ?_
      rotate_left
      · skip
        first | (go_simp; done) | (go_simp; with_reducible rfl)
      simp only [Nat.reduceAdd, List.getElem_toArray, List.getElem_cons_succ, List.getElem_cons_zero, Act.put, List.setIfInBounds_toArray, List.set_cons_zero, List.set_cons_succ]
    refine anyG_take HG (i := 8) (v := ?_) rfl (by kernel_rfl) (by kernel_rfl) (by kernel_rfl) (fun _ _ _ h => h) (NewSl.ins (by decide)) (Or.inl ⟨by rfl, fun w hSw => ?_⟩) ?_
    rotate_left
    · skip
      first | (go_simp; done) | (go_simp; with_reducible rfl)
    simp only [List.getElem_toArray, List.getElem_cons_succ, List.getElem_cons_zero, Act.put, List.setIfInBounds_toArray, List.set_cons_zero, List.set_cons_succ]
    refine anyG_take HG (i := 9) (v := ?_) rfl (by kernel_rfl) (by kernel_rfl) (by kernel_rfl) (fun _ _ _ h => h) (NewSl.ins (by decide)) (Or.inl ⟨by rfl, fun w hSw => ?_⟩) ?_
    rotate_left
    · skip
      first | (go_simp; done) | (go_simp; with_reducible rfl)
    simp only [List.getElem_toArray, List.getElem_cons_succ, List.getElem_cons_zero, Act.put, List.setIfInBounds_toArray, List.set_cons_zero, List.set_cons_succ]
    refine anyG_u8 HG (i := 5) (by kernel_rfl) rfl (by rfl) rfl rfl rfl (fun w h => h.1.size) (by simp) (fun gR lR => ?_)
    simp only [Act.put, List.setIfInBounds_toArray, List.set_cons_zero, List.set_cons_succ]
    refine anyG_conv8 (i := 6) (by kernel_rfl) rfl (by rfl) rfl rfl rfl lR rfl (by decide) ?_
    simp only [Act.put, List.setIfInBounds_toArray, List.set_cons_zero, List.set_cons_succ]
    refine anyG_take HG (i := 7) (v := ?_) rfl (by kernel_rfl) (by kernel_rfl) (by kernel_rfl) (fun _ _ _ h => h) (NewSl.ins (by decide)) (Or.inl ⟨by rfl, fun w hSw => ?_⟩) ?_
    rotate_left
    · skip
      first | (go_simp; done) | (go_simp; with_reducible rfl)
    simp only [List.getElem_toArray, List.getElem_cons_succ, List.getElem_cons_zero, Act.put, List.setIfInBounds_toArray, List.set_cons_zero, List.set_cons_succ]
    refine anyG_take HG (i := 10) (v := ?_) rfl (by kernel_rfl) (by kernel_rfl) (by kernel_rfl) (fun _ _ _ h => h) (NewSl.ins (by decide)) (Or.inl ⟨by rfl, fun w hSw => ?_⟩) ?_
    rotate_left
    · skip
      first | (go_simp; done) | (go_simp; with_reducible rfl)
    simp only [List.getElem_toArray, List.getElem_cons_succ, List.getElem_cons_zero, Act.put, List.setIfInBounds_toArray, List.set_cons_zero, List.set_cons_succ]
    refine anyG_take HG (i := 11) (v := ?_) rfl (by kernel_rfl) (by kernel_rfl) (by kernel_rfl) (fun _ _ _ h => h) (NewSl.ins (by decide)) (Or.inl ⟨by rfl, fun w hSw => ?_⟩) ?_
    rotate_left
    · skip
      first | (go_simp; done) | (go_simp; with_reducible rfl)
    simp only [List.getElem_toArray, List.getElem_cons_succ, List.getElem_cons_zero, Act.put, List.setIfInBounds_toArray, List.set_cons_zero, List.set_cons_succ]
    refine anyG_done (by kernel_rfl) (fun w9 hS _ => ?_) _
    obtain ⟨hpS, hS⟩ := hS
    clear HG
    have PT := Lib.hid (PT.out.pure hpS)
    have D12 := Lib.hid hS.head
    clear hS hpS
    have R1 := range_of_row D12.out
    go_wp2_with (refine wpList_load_mid rfl 45 _ rfl g12 0 rfl (lkC BK) _ R1 Try.underlying45 rfl infoLK ?_)
    clear R1
    refine (HPB.out _).mono ?_
    rintro e w11 ⟨rfl, t11⟩
    have D12 := Lib.hid (t11.obj D12.out (fun e => e)); have PT := Lib.hid (PT.out.pure t11)
    clear t11
    have R1 := range_of_row D12.out
    go_wp2_with (refine wpList_load_mid rfl 45 _ rfl g12 0 rfl (lkC BK) _ R1 Try.underlying45 rfl infoLK ?_)
    clear R1
    refine (HSB.out _).mono ?_
    rintro e w12 ⟨rfl, t12⟩
    have PT := Lib.hid (PT.out.pure t12)
    clear t12
    go_wp2_with (refine wpList_allocZ rfl 45 rfl _ zeroLK ?_)
    intro g16 w13 e0 c0 t0 s0
    have l16 : w.heap.size ≤ g16 := by have := PT.out.size; omega
    clear e0 s0
    go_wp2_with (refine wpList_store_blk rfl 45 _ _ rfl g16 _ (lkC LKey0) _ rfl rfl c0 rfl infoLK (lkC_one _) ?_)
    intro w13x d0 t1 s1
    clear s1
    have D16 := Lib.hid d0; have PT := Lib.hid ((PT.out.pure t0).newer t1 l16)
    clear c0 t0 d0 t1
    go_wp2_with fail
    refine (HVB.out _).mono ?_
    rintro e w14 ⟨rfl, t14⟩
    have PT := Lib.hid (PT.out.pure t14)
    clear t14
    go_wp2_with (refine (Num9_any _ _).mono ?_; rintro e wn ⟨rfl, rfl⟩)
    go_ret
    exact ⟨rfl, PT.out⟩
  · have hr : (IntKind.u64.wrap wh).tmod 6 = 4 := hrem
    clear hrem hc6
    obtain ⟨X4, hX4⟩ : ∃ X4, X4 = S ++ [97] := ⟨_, rfl⟩
    have lX4 : X4.length = 2221 := by have := HSL.out; rw [hX4, List.length_append, this]; rfl
    have hpb := fun W => LPublic_any W { keyF with next := -(d : Int) }
    have hsb := fun W => LSign_any W { keyF with next := -(d : Int) } [109]
    have hvb := fun W => LVerify_any W P [109] X4 (by have := HPL.out; omega) (by omega)
    have hmb : lmayB { keyF with next := -(d : Int) } = false := by have : decide (0 ≤ -(d : Int)) = false := decide_eq_false (by omega); show (_ && _ && _ && _ && _ && decide (0 ≤ -(d : Int)) && _) = false; rw [this]; simp
    rw [lpub_bad hmb] at hpb
    rw [lsign_bad hmb] at hsb
    rw [forms_sz HP.out (by omega)] at hvb
    obtain ⟨BK, hBK⟩ : ∃ BK : LKey, BK = { keyF with next := -(d : Int) } := ⟨_, rfl⟩
    rw [← hBK] at hpb hsb
    have HPB := Lib.hid hpb; have HSB := Lib.hid hsb; have HVB := Lib.hid hvb; have HBK := Lib.hid hBK
    clear hpb hsb hvb hmb hBK
    have ap1 : bstr S ++ (⟨#[97]⟩ : ByteArray) = bstr X4 := by rw [hX4]; exact bstr_app S [97]
    have j1 : IntKind.i64.wrap (-(d : Int)) = -(d : Int) := IntWalk.i64_in _ (by omega)
    have nn : ¬ (9223372036854775807 < n + 1) := by have := HN.out; omega
    clear hX4 lX4
    obtain ⟨k0, k1, k2, k3, k4⟩ := lk_cells D12.out
    have fz : w7x.frozen? ⟨g12, 4, none⟩ = false := frozen_of_row w7x g12 4 _ _ D12.out
    obtain ⟨d2, t2, _⟩ := setAt (i := 4) (v := .int .i64 (-(d : Int))) D12.out (by show 4 < 5; omega)
    rw [show (lkC keyF).take 4 ++ [.int .i64 (-(d : Int))] ++ (lkC keyF).drop 5 = lkC { keyF with next := -(d : Int) } from rfl] at d2
    have D12 := Lib.hid d2; have PT := Lib.hid (PT.out.newer t2 l12)
    clear d2 t2
    rw [← HBK.out] at D12
    have R1 := range_of_row D12.out
    go_wp2_with (refine wpList_load_mid rfl 45 _ rfl g12 0 rfl (lkC BK) _ R1 Try.underlying45 rfl infoLK ?_)
    clear R1
    clear k0 k1 k2 k3 k4 fz
    generalize w7x.setCell ⟨g12, 4, none⟩ (.int .i64 (-(d : Int))) = w8 at *
    refine (HPB.out _).mono ?_
    rintro e w11 ⟨rfl, t11⟩
    have D12 := Lib.hid (t11.obj D12.out (fun e => e)); have PT := Lib.hid (PT.out.pure t11)
    clear t11
    have R1 := range_of_row D12.out
    go_wp2_with (refine wpList_load_mid rfl 45 _ rfl g12 0 rfl (lkC BK) _ R1 Try.underlying45 rfl infoLK ?_)
    clear R1
    refine (HSB.out _).mono ?_
    rintro e w12 ⟨rfl, t12⟩
    have PT := Lib.hid (PT.out.pure t12)
    clear t12
    go_wp2_with (refine wpList_allocZ rfl 45 rfl _ zeroLK ?_)
    intro g16 w13 e0 c0 t0 s0
    have l16 : w.heap.size ≤ g16 := by have := PT.out.size; omega
    clear e0 s0
    go_wp2_with (refine wpList_store_blk rfl 45 _ _ rfl g16 _ (lkC LKey0) _ rfl rfl c0 rfl infoLK (lkC_one _) ?_)
    intro w13x d0 t1 s1
    clear s1
    have D16 := Lib.hid d0; have PT := Lib.hid ((PT.out.pure t0).newer t1 l16)
    clear c0 t0 d0 t1
    go_wp2_with fail
    refine (HVB.out _).mono ?_
    rintro e w14 ⟨rfl, t14⟩
    have PT := Lib.hid (PT.out.pure t14)
    clear t14
    go_wp2_with (refine (Num9_any _ _).mono ?_; rintro e wn ⟨rfl, rfl⟩)
    go_ret
    exact ⟨rfl, PT.out⟩
  · have hr : (IntKind.u64.wrap wh).tmod 6 = 5 := hrem
    clear hrem hc6
    obtain ⟨en, hen⟩ : ∃ en, en = 2220 - d := ⟨_, rfl⟩
    obtain ⟨X4, hX4⟩ : ∃ X4, X4 = S.take en := ⟨_, rfl⟩
    have lX4 : X4.length = en := by have := HSL.out; rw [hX4, List.length_take]; omega
    have hpb := fun W => LPublic_any W { keyF with next := 2 + (d : Int) }
    have hsb := fun W => LSign_any W { keyF with next := 2 + (d : Int) } [109]
    have hvb := fun W => LVerify_any W P [109] X4 (by have := HPL.out; omega) (by omega)
    have hmb : lmayB { keyF with next := 2 + (d : Int) } = false := by have : decide (2 + (d : Int) ≤ 2 ^ keyF.height.toNat) = false := decide_eq_false (by show ¬ (2 + (d : Int) ≤ 2 ^ 1); omega); simp [lmayB, this]
    rw [lpub_bad hmb] at hpb
    rw [lsign_bad hmb] at hsb
    rw [forms_sz HP.out (by omega)] at hvb
    obtain ⟨BK, hBK⟩ : ∃ BK : LKey, BK = { keyF with next := 2 + (d : Int) } := ⟨_, rfl⟩
    rw [← hBK] at hpb hsb
    have HPB := Lib.hid hpb; have HSB := Lib.hid hsb; have HVB := Lib.hid hvb; have HBK := Lib.hid hBK
    clear hpb hsb hvb hmb hBK
    have ex1 : (bstr S).extract 0 en = bstr X4 := by rw [bstr_ext, hX4]; rfl
    have j1 : IntKind.i64.wrap (2 + (d : Int)) = 2 + (d : Int) := IntWalk.i64_in _ (by omega)
    have j2 : IntKind.i64.wrap ((n : Int) - (d : Int)) = (en : Int) := by have := HN.out; rw [IntWalk.i64_in _ (by omega)]; omega
    have j3 : (0 : Int) ≤ en := by omega
    have j4 : (en : Int) ≤ n := by have := HN.out; omega
    clear hX4 lX4 hen
    obtain ⟨k0, k1, k2, k3, k4⟩ := lk_cells D12.out
    have fz : w7x.frozen? ⟨g12, 4, none⟩ = false := frozen_of_row w7x g12 4 _ _ D12.out
    obtain ⟨d2, t2, _⟩ := setAt (i := 4) (v := .int .i64 (2 + (d : Int))) D12.out (by show 4 < 5; omega)
    rw [show (lkC keyF).take 4 ++ [.int .i64 (2 + (d : Int))] ++ (lkC keyF).drop 5 = lkC { keyF with next := 2 + (d : Int) } from rfl] at d2
    have D12 := Lib.hid d2; have PT := Lib.hid (PT.out.newer t2 l12)
    clear d2 t2
    rw [← HBK.out] at D12
    have R1 := range_of_row D12.out
    go_wp2_with (refine wpList_load_mid rfl 45 _ rfl g12 0 rfl (lkC BK) _ R1 Try.underlying45 rfl infoLK ?_)
    clear R1
    clear k0 k1 k2 k3 k4 fz
    generalize w7x.setCell ⟨g12, 4, none⟩ (.int .i64 (2 + (d : Int))) = w8 at *
    refine (HPB.out _).mono ?_
    rintro e w11 ⟨rfl, t11⟩
    have D12 := Lib.hid (t11.obj D12.out (fun e => e)); have PT := Lib.hid (PT.out.pure t11)
    clear t11
    have R1 := range_of_row D12.out
    go_wp2_with (refine wpList_load_mid rfl 45 _ rfl g12 0 rfl (lkC BK) _ R1 Try.underlying45 rfl infoLK ?_)
    clear R1
    refine (HSB.out _).mono ?_
    rintro e w12 ⟨rfl, t12⟩
    have PT := Lib.hid (PT.out.pure t12)
    clear t12
    go_wp2_with (refine wpList_allocZ rfl 45 rfl _ zeroLK ?_)
    intro g16 w13 e0 c0 t0 s0
    have l16 : w.heap.size ≤ g16 := by have := PT.out.size; omega
    clear e0 s0
    go_wp2_with (refine wpList_store_blk rfl 45 _ _ rfl g16 _ (lkC LKey0) _ rfl rfl c0 rfl infoLK (lkC_one _) ?_)
    intro w13x d0 t1 s1
    clear s1
    have D16 := Lib.hid d0; have PT := Lib.hid ((PT.out.pure t0).newer t1 l16)
    clear c0 t0 d0 t1
    go_wp2_with fail
    refine (HVB.out _).mono ?_
    rintro e w14 ⟨rfl, t14⟩
    have PT := Lib.hid (PT.out.pure t14)
    clear t14
    go_wp2_with (refine (Num9_any _ _).mono ?_; rintro e wn ⟨rfl, rfl⟩)
    go_ret
    exact ⟨rfl, PT.out⟩
end Go.Proofs.Ytmifchdmlbcclaa
