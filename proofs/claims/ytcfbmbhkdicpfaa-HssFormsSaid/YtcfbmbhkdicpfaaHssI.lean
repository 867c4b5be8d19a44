/- Chapter 6: what may not be: the walk of the law HssForms. -/
import Derived.Test.YtcfbmbhkdicpfaaHssL
namespace Go.Proofs.Ytcfbmbhkdicpfaa
open Go.RowKit
set_option maxRecDepth 100000

theorem and7 (x : Int) : ∃ H : Nat, H ≤ 7 ∧ bits .and .i64 x 7 = (H : Int) := by
  refine ⟨(BitVec.ofInt 64 x &&& BitVec.ofInt 64 7).toNat, ?_, ?_⟩
  · rw [BitVec.toNat_and]
    exact Nat.le_trans Nat.and_le_right (by decide)
  · have h : (BitVec.ofInt 64 x &&& BitVec.ofInt 64 7).toNat ≤ 7 := by
      rw [BitVec.toNat_and]
      exact Nat.le_trans Nat.and_le_right (by decide)
    show IntKind.i64.wrap (((BitVec.ofInt 64 x &&& BitVec.ofInt 64 7).toNat : Nat) : Int) = _
    exact IntWalk.i64_in _ (by omega)
theorem wraps7 (d : Nat) (h : 1 ≤ d ∧ d ≤ 8) : (IntKind.i64.wrap (4 + (d : Int)) = 4 + (d : Int) ∧ wrap64 (4 + (d : Int)) = 4 + (d : Int)) ∧ (IntKind.i64.wrap (5 + (d : Int)) = 5 + (d : Int) ∧ wrap64 (5 + (d : Int)) = 5 + (d : Int)) ∧ (IntKind.i64.wrap (-(d : Int)) = -(d : Int) ∧ wrap64 (-(d : Int)) = -(d : Int)) ∧ (IntKind.i64.wrap (4500 - (d : Int)) = ((4500 - d : Nat) : Int) ∧ wrap64 (4500 - (d : Int)) = ((4500 - d : Nat) : Int)) :=
  ⟨⟨IntWalk.i64_in _ (by omega), by unfold wrap64; omega⟩, ⟨IntWalk.i64_in _ (by omega), by unfold wrap64; omega⟩, ⟨IntWalk.i64_in _ (by omega), by unfold wrap64; omega⟩, ⟨by rw [IntWalk.i64_in _ (by omega)]; omega, by unfold wrap64; omega⟩⟩
theorem hpub_no {k : LKey} (h : hmayB k = false) : hpubV k = ([], 600) := by rw [hpubV, if_neg (by rw [h]; decide)]
theorem hsign_no {k : LKey} (h : hmayB k = false) (m : List UInt8) : hsignV k m = ([], LKey0, 600) := by rw [hsignV, if_neg (fun e => by rw [h] at e; exact absurd e.1 (by decide))]
theorem hleft_no {k : LKey} (h : hmayB k = false) : hleftV k = 0 := by rw [hleftV, if_neg (by rw [h]; decide)]
theorem hver_no {p m t : List UInt8} (h : ¬ hapartP p t) : hverifyV p m t = 600 := by rw [hverifyV_is, if_neg h]

set_option maxHeartbeats 4000000 in
theorem hssForms_walk (which x : Int) (w : World) : Calls Try.prog 7 #[.int .i64 which, .int .i64 x] w fun e w' => e = .returned (.bool true) ∧ Pure w w' := by
  obtain ⟨X, hX1, c, hX2, hc6⟩ : ∃ X : Nat, IntKind.u64.wrap which = (X : Int) ∧ ∃ c, X % 6 = c ∧ c < 6 := by
    refine ⟨(which % 18446744073709551616).toNat, ?_, _, rfl, Nat.mod_lt _ (by decide)⟩
    rw [IntKind.wrap_u64]; omega
  obtain ⟨a, ha7, hand⟩ := and7 x
  obtain ⟨d, hd⟩ : ∃ d, d = 1 + a := ⟨_, rfl⟩
  have hd8 : 1 ≤ d ∧ d ≤ 8 := by omega
  have HWW := Lib.hid (wraps7 d hd8)
  have HX1 := Lib.hid hX1
  clear hX1
  have HW1 : Hid (IntKind.i64.wrap (1 + (a : Int)) = (d : Int) ∧ wrap64 (1 + (a : Int)) = (d : Int)) := Lib.hid ⟨by rw [IntWalk.i64_in _ (by omega)]; omega, by unfold wrap64; omega⟩
  have hm1 : ([109] : List UInt8).length ≤ 65536 := by decide
  obtain ⟨P, L, S1, S2, hP, hPl, hS, hLl, l1, l2, hend⟩ := keyH_end [102] (i := 0) (by decide) hm1 [109]
  have hpe := hpub_ok (keyH_may [102] (n := 0) (by decide))
  have hse := keyH_sign [102] (i := 0) (by decide) hm1
  have hky := fun W => Key6_any W [102] 0 (by decide)
  rw [show keyB 0 5 = 0 from rfl] at hky
  have hpu := fun W => HPublic_any W (keyH [102] 0)
  have hsi := fun W => HSign_any W (keyH [102] 0) [109]
  rw [hP, hpe] at hpu
  rw [hS, hse] at hsi
  have hs4 := fun W => HSign_any W (keyH [102] 4) [109]
  rw [keyH_spent [102] hm1] at hs4
  have hset4 : ∀ v : Int, (lkC (keyH [102] 0)).take 4 ++ [Value.int .i64 v] ++ (lkC (keyH [102] 0)).drop 5 = lkC { keyH [102] 0 with next := v } := fun v => rfl
  have hset1 : ∀ v : Int, (lkC (keyH [102] 0)).take 1 ++ [Value.int .i64 v] ++ (lkC (keyH [102] 0)).drop 2 = lkC { keyH [102] 0 with height := v } := fun v => rfl
  have hset0 : ∀ v : Int, (lkC (keyH [102] 0)).take 0 ++ [Value.int .i64 v] ++ (lkC (keyH [102] 0)).drop 1 = lkC { keyH [102] 0 with ots := v } := fun v => rfl
  have hset3 : ∀ v : List UInt8, (lkC (keyH [102] 0)).take 3 ++ [Value.string (bstr v)] ++ (lkC (keyH [102] 0)).drop 4 = lkC { keyH [102] 0 with seed := v } := fun v => rfl
  have hk4 : ({ keyH [102] 0 with next := 4 } : LKey) = keyH [102] 4 := rfl
  have hcc := fun W g => @hk_cells (keyH [102] 0) W g
  have hKl : (lkC (keyH [102] 0)).length = 5 := rfl
  have b0 : hmayB { keyH [102] 0 with next := 4 + (d : Int) } = false := hmay_not (fun h => by
    have h4 : 4 + (d : Int) ≤ ((2 ^ (2 * 1) : Nat) : Int) := h.2.2.2
    have : ((2 ^ (2 * 1) : Nat) : Int) = 4 := rfl
    omega)
  have b1 : hmayB { keyH [102] 0 with next := -(d : Int) } = false := hmay_not (fun h => by
    have h3 : 0 ≤ -(d : Int) := h.2.2.1
    omega)
  have b2 : hmayB { keyH [102] 0 with height := 5 + (d : Int) } = false := hmay_not (fun h => by
    have h3 : 5 + (d : Int) ≤ 5 := h.2.1
    omega)
  have b3 : hmayB { keyH [102] 0 with seed := [120] } = false := by simp [hmayB]
  have b5 : hmayB { keyH [102] 0 with ots := 0 } = false := by simp [hmayB, kindB]
  have b4 : hmayB LKey0 = false := by decide
  have hs4' := hset4 4
  rw [hk4] at hs4'
  have q0 := hset4 (4 + (d : Int))
  have q1 := hset4 (-(d : Int))
  have q2 := hset1 (5 + (d : Int))
  have q3 : (lkC (keyH [102] 0)).take 3 ++ [Value.string ⟨#[120]⟩] ++ (lkC (keyH [102] 0)).drop 4 = lkC { keyH [102] 0 with seed := [120] } := rfl
  have q5 := hset0 0
  obtain ⟨B0, hB0⟩ : ∃ B : LKey, B = { keyH [102] 0 with next := 4 + (d : Int) } := ⟨_, rfl⟩
  obtain ⟨B1, hB1⟩ : ∃ B : LKey, B = { keyH [102] 0 with next := -(d : Int) } := ⟨_, rfl⟩
  obtain ⟨B2, hB2⟩ : ∃ B : LKey, B = { keyH [102] 0 with height := 5 + (d : Int) } := ⟨_, rfl⟩
  obtain ⟨B3, hB3⟩ : ∃ B : LKey, B = { keyH [102] 0 with seed := [120] } := ⟨_, rfl⟩
  obtain ⟨B5, hB5⟩ : ∃ B : LKey, B = { keyH [102] 0 with ots := 0 } := ⟨_, rfl⟩
  rw [← hB0] at b0 q0
  rw [← hB1] at b1 q1
  rw [← hB2] at b2 q2
  rw [← hB3] at b3 q3
  rw [← hB5] at b5 q5
  have HQ := Lib.hid (And.intro q0 (And.intro q1 (And.intro q2 (And.intro q3 q5))))
  have HB := Lib.hid (And.intro b0 (And.intro b1 (And.intro b2 (And.intro b3 (And.intro b4 b5)))))
  clear hB0 hB1 hB2 hB3 hB5 hset4 hset1 hset0 hset3 hk4 q0 q1 q2 q3 q5 b0 b1 b2 b3 b4 b5
  generalize keyH [102] (0 + 1) = K1 at *
  generalize keyH [102] 4 = K4 at *
  generalize keyH [102] 0 = K at *
  obtain ⟨PB, hPB⟩ : ∃ PB, PB = beB 2 4 ++ P := ⟨_, rfl⟩
  obtain ⟨SB, hSB⟩ : ∃ SB, SB = beB 1 4 ++ (S1 ++ (L ++ S2)) := ⟨_, rfl⟩
  rw [← hPB] at hpu
  rw [← hSB] at hsi
  have lP : PB.length = 60 := by rw [hPB, List.length_append, beB_length, hPl]
  have lS : SB.length = 4500 := by rw [hSB]; simp only [List.length_append, beB_length, l1, l2, hLl]
  have zP : (bstr PB).size = 60 := by rw [bstr_size, lP]
  have zS : (bstr SB).size = 4500 := by rw [bstr_size, lS]
  have HKY := Lib.hid hky; have HPU := Lib.hid hpu; have HSI := Lib.hid hsi; have HS4 := Lib.hid hs4; have HSET := Lib.hid hs4'; have HCC := Lib.hid hcc; have HKL := Lib.hid hKl; have HEND := Lib.hid hend
  have HLL := Lib.hid (And.intro hPl (And.intro hLl (And.intro l1 (And.intro l2 (And.intro hPB (And.intro hSB (And.intro lP lS)))))))
  have HR : Hid ((X : Int) % 6 = (c : Int) ∧ (X : Int).tmod 6 = (c : Int)) := Lib.hid ⟨by omega, by rw [Int.tmod_eq_emod_of_nonneg (by omega)]; omega⟩
  clear hky hpu hsi hs4 hs4' hcc hKl hend hPl hLl l1 l2 hPB hSB lP lS hP hS hpe hse hm1 hd hX2 ha7
  have PT := Lib.hid (Turn.refl (fun _ => False) w)
  go_enter Try.func7, Try.ntmps7
  go_wp2_with fail
  refine (awake6 _).mono ?_
  rintro e w1 ⟨rfl, t1⟩
  have PT := Lib.hid (PT.out.pure t1)
  clear t1
  go_wp2_with fail
  refine (HKY.out _).mono ?_
  rintro e w2 ⟨rfl, t2⟩
  have PT := Lib.hid (PT.out.pure t2)
  clear t2
  go_wp2_with (refine wpList_allocZ rfl 23 rfl _ zeroHKs ?_)
  intro g5 w3 e0 c0 t0 s0
  have l5 : w.heap.size ≤ g5 := by have := PT.out.size; omega
  clear e0 s0
  go_wp2_with (refine wpList_store_blk rfl 23 _ _ rfl g5 _ (lkC K) _ rfl rfl c0 rfl infoHK (lkC_one _) ?_)
  intro w4 d1 t1 s1
  clear s1
  have D5 := Lib.hid d1; have PT := Lib.hid ((PT.out.pure t0).newer t1 l5)
  clear c0 t0 d1 t1
  have R1 := range_of_row D5.out
  go_wp2_with (refine wpList_load_mid rfl 23 _ rfl g5 0 rfl (lkC K) _ R1 Try.underlying23 rfl infoHK ?_)
  clear R1
  refine (HPU.out _).mono ?_
  rintro e w5 ⟨rfl, t5⟩
  have D5 := Lib.hid (t5.obj D5.out (fun e => e))
  have PT := Lib.hid (PT.out.pure t5)
  clear t5
  have R1 := range_of_row D5.out
  go_wp2_with (refine wpList_load_mid rfl 23 _ rfl g5 0 rfl (lkC K) _ R1 Try.underlying23 rfl infoHK ?_)
  clear R1
  refine (HSI.out _).mono ?_
  rintro e w6 ⟨rfl, t6⟩
  have D5 := Lib.hid (t6.obj D5.out (fun e => e))
  have PT := Lib.hid (PT.out.pure t6)
  clear t6
  go_wp2_with (refine wpList_allocZ rfl 23 rfl _ zeroHKs ?_)
  intro g9 w7 e0 c0 t0 s0
  have l9 : w.heap.size ≤ g9 := by have := PT.out.size; omega
  have n5_9 : g5 ≠ g9 := by have := (Array.getElem?_eq_some_iff.1 D5.out).1; omega
  clear e0 s0
  go_wp2_with (refine wpList_store_blk rfl 23 _ _ rfl g9 _ (lkC K1) _ rfl rfl c0 rfl infoHK (lkC_one _) ?_)
  intro w8 d1 t1 s1
  clear s1
  have D5 := Lib.hid (t1.obj (t0.obj D5.out (fun e => e)) n5_9)
  have D9 := Lib.hid d1; have PT := Lib.hid ((PT.out.pure t0).newer t1 l9)
  clear c0 t0 d1 t1
  obtain ⟨w1, w2⟩ := HW1.out
  have R1 := range_of_row D5.out
  go_wp2_with (first | (refine (Num9_any _ _).mono ?_; rintro e wn ⟨rfl, rfl⟩) | (refine wpList_load_mid rfl 23 _ rfl g5 0 rfl (lkC K) _ R1 Try.underlying23 rfl infoHK ?_) | (refine wpList_allocZ rfl 23 rfl _ zeroHKs ?_))
  intro g12 w9 e0 c0 t0 s0
  have l12 : w.heap.size ≤ g12 := by have := PT.out.size; omega
  have n5_12 : g5 ≠ g12 := by have := (Array.getElem?_eq_some_iff.1 D5.out).1; omega
  clear e0 s0 R1 w1 w2
  go_wp2_with (refine wpList_store_blk rfl 23 _ _ rfl g12 _ (lkC K) _ rfl rfl c0 rfl infoHK (lkC_one _) ?_)
  intro w10 d1 t1 s1
  clear s1
  have D5 := Lib.hid (t1.obj (t0.obj D5.out (fun e => e)) n5_12)
  have D12 := Lib.hid d1; have PT := Lib.hid ((PT.out.pure t0).newer t1 l12)
  clear c0 t0 d1 t1
  clear D9 hand
  rcases (by omega : c = 0 ∨ c = 1 ∨ c = 2 ∨ c = 3 ∨ c = 4 ∨ c = 5) with rfl | rfl | rfl | rfl | rfl | rfl
  · obtain ⟨hPl, hLl, l1, l2, hPB, hSB, lP, lS⟩ := HLL.out
    have hb := HB.out.1
    obtain ⟨Q, hQ⟩ : ∃ Q, Q = 0 :: 0 :: 0 :: 1 :: P := ⟨_, rfl⟩
    have ex : (bstr PB).extract 4 60 = bstr P := by rw [bstr_ext, List.take_of_length_le (by omega), hPB]; rfl
    have zp0 : (bstr P).size = 56 := by rw [bstr_size, hPl]
    have lQ : Q.length = 60 := by rw [hQ]; simp only [List.length_cons, hPl]
    have zq : (bstr Q).size = 60 := by rw [bstr_size, lQ]
    have n1 : ¬ (9223372036854775807 < 4 + 56) := by decide
    have hver : hverifyV Q [109] SB = 600 := hver_no (fun h => by have h2 := h.2.1; rw [hQ] at h2; exact absurd h2 (by show [0, 0, 0, 1] ≠ beB 2 4; decide))
    have hlq := HVerify_any
    have hvb := fun W => HVerify_any W Q [109] SB (by rw [lQ]; decide) (by rw [lS]; decide)
    rw [hver] at hvb
    rw [hQ] at hvb
    have hpb := fun W => HPublic_any W B0
    rw [hpub_no hb] at hpb
    have hsb := fun W => HSign_any W B0 [109]
    rw [hsign_no hb] at hsb
    have hlb := fun W => HLeft_any W B0
    rw [hleft_no hb] at hlb
    have HPB := Lib.hid hpb; have HSB := Lib.hid hsb; have HLB := Lib.hid hlb; have HVB := Lib.hid hvb
    clear hlq hver hvb hpb hsb hlb hb hPl hLl l1 l2 hPB hSB lP lS hQ lQ
    have c12 := HCC.out _ _ D12.out
    have fz : w10.frozen? ⟨g12, 4, none⟩ = false := frozen_of_row _ g12 4 _ _ D12.out
    obtain ⟨d2, t2, _⟩ := setAt (i := 4) (v := .int .i64 (4 + (d : Int))) D12.out (by rw [HKL.out]; omega)
    rw [HQ.out.1] at d2
    have D5 := Lib.hid (t2.obj D5.out n5_12); have D12 := Lib.hid d2; have PT := Lib.hid (PT.out.newer t2 l12)
    have R1 := range_of_row D12.out
    clear d2 t2
    obtain ⟨_, _, _, _, _⟩ := c12
    obtain ⟨⟨x1, x2⟩, ⟨x3, x4⟩, ⟨x5, x6⟩, ⟨x7, x8⟩⟩ := HWW.out
    have hX1 := HX1.out
    obtain ⟨r1, r2⟩ := HR.out
    go_wp2_with (refine wpList_load_mid rfl 23 _ rfl g12 0 rfl (lkC B0) _ R1 Try.underlying23 rfl infoHK ?_)
    generalize w10.setCell ⟨g12, 4, none⟩ (.int .i64 (4 + (d : Int))) = w11 at *
    clear R1 fz x1 x2 x3 x4 x5 x6 x7 x8 hX1 r1 r2
    refine (HPB.out _).mono ?_
    rintro e w12 ⟨rfl, t12⟩
    have D5 := Lib.hid (t12.obj D5.out (fun e => e))
    have D12 := Lib.hid (t12.obj D12.out (fun e => e))
    have PT := Lib.hid (PT.out.pure t12)
    clear t12
    have R1 := range_of_row D12.out
    go_wp2_with (refine wpList_load_mid rfl 23 _ rfl g12 0 rfl (lkC B0) _ R1 Try.underlying23 rfl infoHK ?_)
    clear R1
    refine (HSB.out _).mono ?_
    rintro e w13 ⟨rfl, t13⟩
    have D5 := Lib.hid (t13.obj D5.out (fun e => e))
    have D12 := Lib.hid (t13.obj D12.out (fun e => e))
    have PT := Lib.hid (PT.out.pure t13)
    clear t13
    go_wp2_with (refine wpList_allocZ rfl 23 rfl _ zeroHKs ?_)
    intro g16 w14 e0 c0 t0 s0
    have l16 : w.heap.size ≤ g16 := by have := PT.out.size; omega
    have n5_16 : g5 ≠ g16 := by have := (Array.getElem?_eq_some_iff.1 D5.out).1; omega
    have n12_16 : g12 ≠ g16 := by have := (Array.getElem?_eq_some_iff.1 D12.out).1; omega
    clear e0 s0
    go_wp2_with (refine wpList_store_blk rfl 23 _ _ rfl g16 _ (lkC LKey0) _ rfl rfl c0 rfl infoHK (lkC_one _) ?_)
    intro w15 d1 t1 s1
    clear s1
    have D5 := Lib.hid (t1.obj (t0.obj D5.out (fun e => e)) n5_16)
    have D12 := Lib.hid (t1.obj (t0.obj D12.out (fun e => e)) n12_16)
    have D16 := Lib.hid d1; have PT := Lib.hid ((PT.out.pure t0).newer t1 l16)
    clear c0 t0 d1 t1
    go_wp2_with fail
    refine (HVB.out _).mono ?_
    rintro e w16 ⟨rfl, t16⟩
    have D5 := Lib.hid (t16.obj D5.out (fun e => e))
    have D12 := Lib.hid (t16.obj D12.out (fun e => e))
    have PT := Lib.hid (PT.out.pure t16)
    clear t16
    have c4 := (HCC.out _ _ D5.out).2.2.2.2
    have fz : w16.frozen? ⟨g5, 4, none⟩ = false := frozen_of_row _ g5 4 _ _ D5.out
    obtain ⟨d2, t2, _⟩ := setAt (i := 4) (v := .int .i64 4) D5.out (by rw [HKL.out]; omega)
    rw [HSET.out] at d2
    have D12 := Lib.hid (t2.obj D12.out (Ne.symm n5_12)); have D5 := Lib.hid d2; have PT := Lib.hid (PT.out.newer t2 l5)
    have R1 := range_of_row D5.out
    clear d2 t2
    go_wp2_with (refine wpList_load_mid rfl 23 _ rfl g5 0 rfl (lkC K4) _ R1 Try.underlying23 rfl infoHK ?_)
    generalize w16.setCell ⟨g5, 4, none⟩ (.int .i64 4) = w17 at *
    clear R1 c4 fz
    refine (HS4.out _).mono ?_
    rintro e w18 ⟨rfl, t18⟩
    have D5 := Lib.hid (t18.obj D5.out (fun e => e))
    have D12 := Lib.hid (t18.obj D12.out (fun e => e))
    have PT := Lib.hid (PT.out.pure t18)
    clear t18
    go_wp2_with (refine wpList_allocZ rfl 23 rfl _ zeroHKs ?_)
    intro g20 w19 e0 c0 t0 s0
    have l20 : w.heap.size ≤ g20 := by have := PT.out.size; omega
    have n12_20 : g12 ≠ g20 := by have := (Array.getElem?_eq_some_iff.1 D12.out).1; omega
    clear e0 s0
    go_wp2_with (refine wpList_store_blk rfl 23 _ _ rfl g20 _ (lkC LKey0) _ rfl rfl c0 rfl infoHK (lkC_one _) ?_)
    intro w20 d1 t1 s1
    clear s1
    have D12 := Lib.hid (t1.obj (t0.obj D12.out (fun e => e)) n12_20)
    have D20 := Lib.hid d1; have PT := Lib.hid ((PT.out.pure t0).newer t1 l20)
    clear c0 t0 d1 t1
    have R1 := range_of_row D12.out
    go_wp2_with (first | (refine (Num9_any _ _).mono ?_; rintro e wn ⟨rfl, rfl⟩) | (refine wpList_load_midX (by rfl) 23 _ rfl g12 0 rfl (lkC B0) _ R1 Try.underlying23 rfl infoHK ?_))
    clear R1
    refine (HLB.out _).mono ?_
    rintro e w21 ⟨rfl, t21⟩
    have PT := Lib.hid (PT.out.pure t21)
    clear t21
    go_wp2_with (refine (Num9_any _ _).mono ?_; rintro e wn ⟨rfl, rfl⟩)
    go_ret
    exact ⟨rfl, PT.out⟩
  · obtain ⟨hPl, hLl, l1, l2, hPB, hSB, lP, lS⟩ := HLL.out
    have hb := HB.out.2.1
    obtain ⟨Q, hQ⟩ : ∃ Q, Q = PB ++ [97] := ⟨_, rfl⟩
    have lQ : Q.length = 61 := by rw [hQ, List.length_append, lP]; rfl
    have zq : (bstr Q).size = 61 := by rw [bstr_size, lQ]
    have n1 : ¬ (9223372036854775807 < 60 + 1) := by decide
    have hver : hverifyV Q [109] SB = 600 := hver_no (fun h => by have h2 := h.1; omega)
    have hlq := HVerify_any
    have hvb := fun W => HVerify_any W Q [109] SB (by rw [lQ]; decide) (by rw [lS]; decide)
    rw [hver] at hvb
    rw [hQ] at hvb
    have hpb := fun W => HPublic_any W B1
    rw [hpub_no hb] at hpb
    have hsb := fun W => HSign_any W B1 [109]
    rw [hsign_no hb] at hsb
    have hlb := fun W => HLeft_any W B1
    rw [hleft_no hb] at hlb
    have HPB := Lib.hid hpb; have HSB := Lib.hid hsb; have HLB := Lib.hid hlb; have HVB := Lib.hid hvb
    clear hlq hver hvb hpb hsb hlb hb hPl hLl l1 l2 hPB hSB lP lS hQ lQ
    have c12 := HCC.out _ _ D12.out
    have fz : w10.frozen? ⟨g12, 4, none⟩ = false := frozen_of_row _ g12 4 _ _ D12.out
    obtain ⟨d2, t2, _⟩ := setAt (i := 4) (v := .int .i64 (-(d : Int))) D12.out (by rw [HKL.out]; omega)
    rw [HQ.out.2.1] at d2
    have D5 := Lib.hid (t2.obj D5.out n5_12); have D12 := Lib.hid d2; have PT := Lib.hid (PT.out.newer t2 l12)
    have R1 := range_of_row D12.out
    clear d2 t2
    obtain ⟨_, _, _, _, _⟩ := c12
    obtain ⟨⟨x1, x2⟩, ⟨x3, x4⟩, ⟨x5, x6⟩, ⟨x7, x8⟩⟩ := HWW.out
    have hX1 := HX1.out
    obtain ⟨r1, r2⟩ := HR.out
    go_wp2_with (refine wpList_load_mid rfl 23 _ rfl g12 0 rfl (lkC B1) _ R1 Try.underlying23 rfl infoHK ?_)
    generalize w10.setCell ⟨g12, 4, none⟩ (.int .i64 (-(d : Int))) = w11 at *
    clear R1 fz x1 x2 x3 x4 x5 x6 x7 x8 hX1 r1 r2
    refine (HPB.out _).mono ?_
    rintro e w12 ⟨rfl, t12⟩
    have D5 := Lib.hid (t12.obj D5.out (fun e => e))
    have D12 := Lib.hid (t12.obj D12.out (fun e => e))
    have PT := Lib.hid (PT.out.pure t12)
    clear t12
    have R1 := range_of_row D12.out
    go_wp2_with (refine wpList_load_mid rfl 23 _ rfl g12 0 rfl (lkC B1) _ R1 Try.underlying23 rfl infoHK ?_)
    clear R1
    refine (HSB.out _).mono ?_
    rintro e w13 ⟨rfl, t13⟩
    have D5 := Lib.hid (t13.obj D5.out (fun e => e))
    have D12 := Lib.hid (t13.obj D12.out (fun e => e))
    have PT := Lib.hid (PT.out.pure t13)
    clear t13
    go_wp2_with (refine wpList_allocZ rfl 23 rfl _ zeroHKs ?_)
    intro g16 w14 e0 c0 t0 s0
    have l16 : w.heap.size ≤ g16 := by have := PT.out.size; omega
    have n5_16 : g5 ≠ g16 := by have := (Array.getElem?_eq_some_iff.1 D5.out).1; omega
    have n12_16 : g12 ≠ g16 := by have := (Array.getElem?_eq_some_iff.1 D12.out).1; omega
    clear e0 s0
    go_wp2_with (refine wpList_store_blk rfl 23 _ _ rfl g16 _ (lkC LKey0) _ rfl rfl c0 rfl infoHK (lkC_one _) ?_)
    intro w15 d1 t1 s1
    clear s1
    have D5 := Lib.hid (t1.obj (t0.obj D5.out (fun e => e)) n5_16)
    have D12 := Lib.hid (t1.obj (t0.obj D12.out (fun e => e)) n12_16)
    have D16 := Lib.hid d1; have PT := Lib.hid ((PT.out.pure t0).newer t1 l16)
    clear c0 t0 d1 t1
    go_wp2_with fail
    refine (HVB.out _).mono ?_
    rintro e w16 ⟨rfl, t16⟩
    have D5 := Lib.hid (t16.obj D5.out (fun e => e))
    have D12 := Lib.hid (t16.obj D12.out (fun e => e))
    have PT := Lib.hid (PT.out.pure t16)
    clear t16
    have c4 := (HCC.out _ _ D5.out).2.2.2.2
    have fz : w16.frozen? ⟨g5, 4, none⟩ = false := frozen_of_row _ g5 4 _ _ D5.out
    obtain ⟨d2, t2, _⟩ := setAt (i := 4) (v := .int .i64 4) D5.out (by rw [HKL.out]; omega)
    rw [HSET.out] at d2
    have D12 := Lib.hid (t2.obj D12.out (Ne.symm n5_12)); have D5 := Lib.hid d2; have PT := Lib.hid (PT.out.newer t2 l5)
    have R1 := range_of_row D5.out
    clear d2 t2
    go_wp2_with (refine wpList_load_mid rfl 23 _ rfl g5 0 rfl (lkC K4) _ R1 Try.underlying23 rfl infoHK ?_)
    generalize w16.setCell ⟨g5, 4, none⟩ (.int .i64 4) = w17 at *
    clear R1 c4 fz
    refine (HS4.out _).mono ?_
    rintro e w18 ⟨rfl, t18⟩
    have D5 := Lib.hid (t18.obj D5.out (fun e => e))
    have D12 := Lib.hid (t18.obj D12.out (fun e => e))
    have PT := Lib.hid (PT.out.pure t18)
    clear t18
    go_wp2_with (refine wpList_allocZ rfl 23 rfl _ zeroHKs ?_)
    intro g20 w19 e0 c0 t0 s0
    have l20 : w.heap.size ≤ g20 := by have := PT.out.size; omega
    have n12_20 : g12 ≠ g20 := by have := (Array.getElem?_eq_some_iff.1 D12.out).1; omega
    clear e0 s0
    go_wp2_with (refine wpList_store_blk rfl 23 _ _ rfl g20 _ (lkC LKey0) _ rfl rfl c0 rfl infoHK (lkC_one _) ?_)
    intro w20 d1 t1 s1
    clear s1
    have D12 := Lib.hid (t1.obj (t0.obj D12.out (fun e => e)) n12_20)
    have D20 := Lib.hid d1; have PT := Lib.hid ((PT.out.pure t0).newer t1 l20)
    clear c0 t0 d1 t1
    have R1 := range_of_row D12.out
    go_wp2_with (first | (refine (Num9_any _ _).mono ?_; rintro e wn ⟨rfl, rfl⟩) | (refine wpList_load_midX (by rfl) 23 _ rfl g12 0 rfl (lkC B1) _ R1 Try.underlying23 rfl infoHK ?_))
    clear R1
    refine (HLB.out _).mono ?_
    rintro e w21 ⟨rfl, t21⟩
    have PT := Lib.hid (PT.out.pure t21)
    clear t21
    go_wp2_with (refine (Num9_any _ _).mono ?_; rintro e wn ⟨rfl, rfl⟩)
    go_ret
    exact ⟨rfl, PT.out⟩
  · obtain ⟨hPl, hLl, l1, l2, hPB, hSB, lP, lS⟩ := HLL.out
    have hb := HB.out.2.2.1
    obtain ⟨T, hT⟩ : ∃ T, T = S1 ++ (L ++ S2) := ⟨_, rfl⟩
    obtain ⟨Q, hQ⟩ : ∃ Q, Q = 0 :: 0 :: 0 :: 2 :: T := ⟨_, rfl⟩
    have lT : T.length = 4496 := by rw [hT]; simp only [List.length_append, l1, l2, hLl]
    have ex : (bstr SB).extract 4 4500 = bstr T := by rw [bstr_ext, List.take_of_length_le (by omega), hSB, ← hT]; rfl
    have zt : (bstr T).size = 4496 := by rw [bstr_size, lT]
    have lQ : Q.length = 4500 := by rw [hQ]; simp only [List.length_cons, lT]
    have zq : (bstr Q).size = 4500 := by rw [bstr_size, lQ]
    have n1 : ¬ (9223372036854775807 < 4 + 4496) := by decide
    have hver : hverifyV PB [109] Q = 600 := hver_no (fun h => by have h2 := h.2.2.2.1; rw [hQ] at h2; exact absurd h2 (by show [0, 0, 0, 2] ≠ beB 1 4; decide))
    have hlq := HVerify_any
    have hvb := fun W => HVerify_any W PB [109] Q (by rw [lP]; decide) (by rw [lQ]; decide)
    rw [hver] at hvb
    rw [hQ] at hvb
    have hpb := fun W => HPublic_any W B2
    rw [hpub_no hb] at hpb
    have hsb := fun W => HSign_any W B2 [109]
    rw [hsign_no hb] at hsb
    have hlb := fun W => HLeft_any W B2
    rw [hleft_no hb] at hlb
    have HPB := Lib.hid hpb; have HSB := Lib.hid hsb; have HLB := Lib.hid hlb; have HVB := Lib.hid hvb
    clear hlq hver hvb hpb hsb hlb hb hPl hLl l1 l2 hPB hSB lP lS hT hQ lT lQ
    have c12 := HCC.out _ _ D12.out
    have fz : w10.frozen? ⟨g12, 1, none⟩ = false := frozen_of_row _ g12 1 _ _ D12.out
    obtain ⟨d2, t2, _⟩ := setAt (i := 1) (v := .int .i64 (5 + (d : Int))) D12.out (by rw [HKL.out]; omega)
    rw [HQ.out.2.2.1] at d2
    have D5 := Lib.hid (t2.obj D5.out n5_12); have D12 := Lib.hid d2; have PT := Lib.hid (PT.out.newer t2 l12)
    have R1 := range_of_row D12.out
    clear d2 t2
    obtain ⟨_, _, _, _, _⟩ := c12
    obtain ⟨⟨x1, x2⟩, ⟨x3, x4⟩, ⟨x5, x6⟩, ⟨x7, x8⟩⟩ := HWW.out
    have hX1 := HX1.out
    obtain ⟨r1, r2⟩ := HR.out
    go_wp2_with (refine wpList_load_mid rfl 23 _ rfl g12 0 rfl (lkC B2) _ R1 Try.underlying23 rfl infoHK ?_)
    generalize w10.setCell ⟨g12, 1, none⟩ (.int .i64 (5 + (d : Int))) = w11 at *
    clear R1 fz x1 x2 x3 x4 x5 x6 x7 x8 hX1 r1 r2
    refine (HPB.out _).mono ?_
    rintro e w12 ⟨rfl, t12⟩
    have D5 := Lib.hid (t12.obj D5.out (fun e => e))
    have D12 := Lib.hid (t12.obj D12.out (fun e => e))
    have PT := Lib.hid (PT.out.pure t12)
    clear t12
    have R1 := range_of_row D12.out
    go_wp2_with (refine wpList_load_mid rfl 23 _ rfl g12 0 rfl (lkC B2) _ R1 Try.underlying23 rfl infoHK ?_)
    clear R1
    refine (HSB.out _).mono ?_
    rintro e w13 ⟨rfl, t13⟩
    have D5 := Lib.hid (t13.obj D5.out (fun e => e))
    have D12 := Lib.hid (t13.obj D12.out (fun e => e))
    have PT := Lib.hid (PT.out.pure t13)
    clear t13
    go_wp2_with (refine wpList_allocZ rfl 23 rfl _ zeroHKs ?_)
    intro g16 w14 e0 c0 t0 s0
    have l16 : w.heap.size ≤ g16 := by have := PT.out.size; omega
    have n5_16 : g5 ≠ g16 := by have := (Array.getElem?_eq_some_iff.1 D5.out).1; omega
    have n12_16 : g12 ≠ g16 := by have := (Array.getElem?_eq_some_iff.1 D12.out).1; omega
    clear e0 s0
    go_wp2_with (refine wpList_store_blk rfl 23 _ _ rfl g16 _ (lkC LKey0) _ rfl rfl c0 rfl infoHK (lkC_one _) ?_)
    intro w15 d1 t1 s1
    clear s1
    have D5 := Lib.hid (t1.obj (t0.obj D5.out (fun e => e)) n5_16)
    have D12 := Lib.hid (t1.obj (t0.obj D12.out (fun e => e)) n12_16)
    have D16 := Lib.hid d1; have PT := Lib.hid ((PT.out.pure t0).newer t1 l16)
    clear c0 t0 d1 t1
    go_wp2_with fail
    refine (HVB.out _).mono ?_
    rintro e w16 ⟨rfl, t16⟩
    have D5 := Lib.hid (t16.obj D5.out (fun e => e))
    have D12 := Lib.hid (t16.obj D12.out (fun e => e))
    have PT := Lib.hid (PT.out.pure t16)
    clear t16
    have c4 := (HCC.out _ _ D5.out).2.2.2.2
    have fz : w16.frozen? ⟨g5, 4, none⟩ = false := frozen_of_row _ g5 4 _ _ D5.out
    obtain ⟨d2, t2, _⟩ := setAt (i := 4) (v := .int .i64 4) D5.out (by rw [HKL.out]; omega)
    rw [HSET.out] at d2
    have D12 := Lib.hid (t2.obj D12.out (Ne.symm n5_12)); have D5 := Lib.hid d2; have PT := Lib.hid (PT.out.newer t2 l5)
    have R1 := range_of_row D5.out
    clear d2 t2
    go_wp2_with (refine wpList_load_mid rfl 23 _ rfl g5 0 rfl (lkC K4) _ R1 Try.underlying23 rfl infoHK ?_)
    generalize w16.setCell ⟨g5, 4, none⟩ (.int .i64 4) = w17 at *
    clear R1 c4 fz
    refine (HS4.out _).mono ?_
    rintro e w18 ⟨rfl, t18⟩
    have D5 := Lib.hid (t18.obj D5.out (fun e => e))
    have D12 := Lib.hid (t18.obj D12.out (fun e => e))
    have PT := Lib.hid (PT.out.pure t18)
    clear t18
    go_wp2_with (refine wpList_allocZ rfl 23 rfl _ zeroHKs ?_)
    intro g20 w19 e0 c0 t0 s0
    have l20 : w.heap.size ≤ g20 := by have := PT.out.size; omega
    have n12_20 : g12 ≠ g20 := by have := (Array.getElem?_eq_some_iff.1 D12.out).1; omega
    clear e0 s0
    go_wp2_with (refine wpList_store_blk rfl 23 _ _ rfl g20 _ (lkC LKey0) _ rfl rfl c0 rfl infoHK (lkC_one _) ?_)
    intro w20 d1 t1 s1
    clear s1
    have D12 := Lib.hid (t1.obj (t0.obj D12.out (fun e => e)) n12_20)
    have D20 := Lib.hid d1; have PT := Lib.hid ((PT.out.pure t0).newer t1 l20)
    clear c0 t0 d1 t1
    have R1 := range_of_row D12.out
    go_wp2_with (first | (refine (Num9_any _ _).mono ?_; rintro e wn ⟨rfl, rfl⟩) | (refine wpList_load_midX (by rfl) 23 _ rfl g12 0 rfl (lkC B2) _ R1 Try.underlying23 rfl infoHK ?_))
    clear R1
    refine (HLB.out _).mono ?_
    rintro e w21 ⟨rfl, t21⟩
    have PT := Lib.hid (PT.out.pure t21)
    clear t21
    go_wp2_with (refine (Num9_any _ _).mono ?_; rintro e wn ⟨rfl, rfl⟩)
    go_ret
    exact ⟨rfl, PT.out⟩
  · obtain ⟨hPl, hLl, l1, l2, hPB, hSB, lP, lS⟩ := HLL.out
    have hb := HB.out.2.2.2.1
    obtain ⟨n, hn⟩ : ∃ n, n = 4500 - d := ⟨_, rfl⟩
    have HN := Lib.hid hn
    obtain ⟨T, hT⟩ : ∃ T, T = S2.take (2220 - d) := ⟨_, rfl⟩
    obtain ⟨Q, hQ⟩ : ∃ Q, Q = beB 1 4 ++ (S1 ++ (L ++ T)) := ⟨_, rfl⟩
    have lT : T.length = 2220 - d := by rw [hT, List.length_take]; omega
    have b14 : (beB 1 4).length = 4 := beB_length _ _
    have eQ : SB.take n = Q := by
      rw [hSB, hQ, List.take_append, List.take_of_length_le (by omega), b14, List.take_append, List.take_of_length_le (by omega), l1, List.take_append, List.take_of_length_le (by omega), hLl, hT]
      congr 4
      omega
    have ex : (bstr SB).extract 0 n = bstr Q := by rw [bstr_ext, List.drop_zero, eQ]
    have lQ : Q.length = n := by rw [← eQ, List.length_take]; omega
    have zq : (bstr Q).size = n := by rw [bstr_size, lQ]
    have y1 : (n : Int) ≤ 4500 := by omega
    have y2 : n ≤ 4500 := by omega
    have HD := Lib.hid (And.intro lT hd8)
    have hver : hverifyV PB [109] Q = 600 := by rw [hPB, hQ]; exact HEND.out T (by have := HD.out; omega)
    have hlq := HVerify_any
    have hvb := fun W => HVerify_any W PB [109] Q (by rw [lP]; decide) (by rw [lQ]; exact Nat.le_trans y2 (by decide))
    rw [hver] at hvb
    have hpb := fun W => HPublic_any W B3
    rw [hpub_no hb] at hpb
    have hsb := fun W => HSign_any W B3 [109]
    rw [hsign_no hb] at hsb
    have hlb := fun W => HLeft_any W B3
    rw [hleft_no hb] at hlb
    have HPB := Lib.hid hpb; have HSB := Lib.hid hsb; have HLB := Lib.hid hlb; have HVB := Lib.hid hvb
    clear hn hlq hver hvb hpb hsb hlb hb hPl hLl l1 l2 hPB hSB lP lS hT hQ eQ lT b14 lQ
    have c12 := HCC.out _ _ D12.out
    have fz : w10.frozen? ⟨g12, 3, none⟩ = false := frozen_of_row _ g12 3 _ _ D12.out
    obtain ⟨d2, t2, _⟩ := setAt (i := 3) (v := .string ⟨#[120]⟩) D12.out (by rw [HKL.out]; omega)
    rw [HQ.out.2.2.2.1] at d2
    have D5 := Lib.hid (t2.obj D5.out n5_12); have D12 := Lib.hid d2; have PT := Lib.hid (PT.out.newer t2 l12)
    have R1 := range_of_row D12.out
    clear d2 t2
    obtain ⟨_, _, _, _, _⟩ := c12
    obtain ⟨⟨x1, x2⟩, ⟨x3, x4⟩, ⟨x5, x6⟩, ⟨x7, x8⟩⟩ := HWW.out
    have hX1 := HX1.out
    obtain ⟨r1, r2⟩ := HR.out
    rw [← HN.out] at x7 x8
    go_wp2_with (refine wpList_load_mid rfl 23 _ rfl g12 0 rfl (lkC B3) _ R1 Try.underlying23 rfl infoHK ?_)
    generalize w10.setCell ⟨g12, 3, none⟩ (.string ⟨#[120]⟩) = w11 at *
    clear R1 fz x1 x2 x3 x4 x5 x6 x7 x8 hX1 r1 r2
    refine (HPB.out _).mono ?_
    rintro e w12 ⟨rfl, t12⟩
    have D5 := Lib.hid (t12.obj D5.out (fun e => e))
    have D12 := Lib.hid (t12.obj D12.out (fun e => e))
    have PT := Lib.hid (PT.out.pure t12)
    clear t12
    have R1 := range_of_row D12.out
    go_wp2_with (refine wpList_load_mid rfl 23 _ rfl g12 0 rfl (lkC B3) _ R1 Try.underlying23 rfl infoHK ?_)
    clear R1
    refine (HSB.out _).mono ?_
    rintro e w13 ⟨rfl, t13⟩
    have D5 := Lib.hid (t13.obj D5.out (fun e => e))
    have D12 := Lib.hid (t13.obj D12.out (fun e => e))
    have PT := Lib.hid (PT.out.pure t13)
    clear t13
    go_wp2_with (refine wpList_allocZ rfl 23 rfl _ zeroHKs ?_)
    intro g16 w14 e0 c0 t0 s0
    have l16 : w.heap.size ≤ g16 := by have := PT.out.size; omega
    have n5_16 : g5 ≠ g16 := by have := (Array.getElem?_eq_some_iff.1 D5.out).1; omega
    have n12_16 : g12 ≠ g16 := by have := (Array.getElem?_eq_some_iff.1 D12.out).1; omega
    clear e0 s0
    go_wp2_with (refine wpList_store_blk rfl 23 _ _ rfl g16 _ (lkC LKey0) _ rfl rfl c0 rfl infoHK (lkC_one _) ?_)
    intro w15 d1 t1 s1
    clear s1
    have D5 := Lib.hid (t1.obj (t0.obj D5.out (fun e => e)) n5_16)
    have D12 := Lib.hid (t1.obj (t0.obj D12.out (fun e => e)) n12_16)
    have D16 := Lib.hid d1; have PT := Lib.hid ((PT.out.pure t0).newer t1 l16)
    clear c0 t0 d1 t1
    go_wp2_with fail
    refine (HVB.out _).mono ?_
    rintro e w16 ⟨rfl, t16⟩
    have D5 := Lib.hid (t16.obj D5.out (fun e => e))
    have D12 := Lib.hid (t16.obj D12.out (fun e => e))
    have PT := Lib.hid (PT.out.pure t16)
    clear t16
    have c4 := (HCC.out _ _ D5.out).2.2.2.2
    have fz : w16.frozen? ⟨g5, 4, none⟩ = false := frozen_of_row _ g5 4 _ _ D5.out
    obtain ⟨d2, t2, _⟩ := setAt (i := 4) (v := .int .i64 4) D5.out (by rw [HKL.out]; omega)
    rw [HSET.out] at d2
    have D12 := Lib.hid (t2.obj D12.out (Ne.symm n5_12)); have D5 := Lib.hid d2; have PT := Lib.hid (PT.out.newer t2 l5)
    have R1 := range_of_row D5.out
    clear d2 t2
    go_wp2_with (refine wpList_load_mid rfl 23 _ rfl g5 0 rfl (lkC K4) _ R1 Try.underlying23 rfl infoHK ?_)
    generalize w16.setCell ⟨g5, 4, none⟩ (.int .i64 4) = w17 at *
    clear R1 c4 fz
    refine (HS4.out _).mono ?_
    rintro e w18 ⟨rfl, t18⟩
    have D5 := Lib.hid (t18.obj D5.out (fun e => e))
    have D12 := Lib.hid (t18.obj D12.out (fun e => e))
    have PT := Lib.hid (PT.out.pure t18)
    clear t18
    go_wp2_with (refine wpList_allocZ rfl 23 rfl _ zeroHKs ?_)
    intro g20 w19 e0 c0 t0 s0
    have l20 : w.heap.size ≤ g20 := by have := PT.out.size; omega
    have n12_20 : g12 ≠ g20 := by have := (Array.getElem?_eq_some_iff.1 D12.out).1; omega
    clear e0 s0
    go_wp2_with (refine wpList_store_blk rfl 23 _ _ rfl g20 _ (lkC LKey0) _ rfl rfl c0 rfl infoHK (lkC_one _) ?_)
    intro w20 d1 t1 s1
    clear s1
    have D12 := Lib.hid (t1.obj (t0.obj D12.out (fun e => e)) n12_20)
    have D20 := Lib.hid d1; have PT := Lib.hid ((PT.out.pure t0).newer t1 l20)
    clear c0 t0 d1 t1
    have R1 := range_of_row D12.out
    go_wp2_with (first | (refine (Num9_any _ _).mono ?_; rintro e wn ⟨rfl, rfl⟩) | (refine wpList_load_midX (by rfl) 23 _ rfl g12 0 rfl (lkC B3) _ R1 Try.underlying23 rfl infoHK ?_))
    clear R1
    refine (HLB.out _).mono ?_
    rintro e w21 ⟨rfl, t21⟩
    have PT := Lib.hid (PT.out.pure t21)
    clear t21
    go_wp2_with (refine (Num9_any _ _).mono ?_; rintro e wn ⟨rfl, rfl⟩)
    go_ret
    exact ⟨rfl, PT.out⟩
  · obtain ⟨hPl, hLl, l1, l2, hPB, hSB, lP, lS⟩ := HLL.out
    have hb := HB.out.2.2.2.2.1
    obtain ⟨Q, hQ⟩ : ∃ Q, Q = SB.take 4 := ⟨_, rfl⟩
    have ex : (bstr SB).extract 0 4 = bstr Q := by rw [bstr_ext, List.drop_zero, hQ]
    have lQ : Q.length = 4 := by rw [hQ, List.length_take]; omega
    have zq : (bstr Q).size = 4 := by rw [bstr_size, lQ]
    have hver : hverifyV PB [109] Q = 600 := hver_no (fun h => by have h2 := h.2.2.2.2.2.1; rw [lQ] at h2; omega)
    have hlq := HVerify_any
    have hvb := fun W => HVerify_any W PB [109] Q (by rw [lP]; decide) (by rw [lQ]; decide)
    rw [hver] at hvb
    have hpb := fun W => HPublic_any W LKey0
    rw [hpub_no hb] at hpb
    have hsb := fun W => HSign_any W LKey0 [109]
    rw [hsign_no hb] at hsb
    have hlb := fun W => HLeft_any W LKey0
    rw [hleft_no hb] at hlb
    have HPB := Lib.hid hpb; have HSB := Lib.hid hsb; have HLB := Lib.hid hlb; have HVB := Lib.hid hvb
    clear hlq hver hvb hpb hsb hlb hb hPl hLl l1 l2 hPB hSB lP lS hQ lQ
    have hX1 := HX1.out
    obtain ⟨r1, r2⟩ := HR.out
    go_wp2_with (refine wpList_store_blk rfl 23 _ _ rfl g12 _ (lkC LKey0) _ rfl rfl D12.out (by simp [HKL.out]; rfl) infoHK (lkC_one _) ?_)
    intro w11 d11 t11 _
    have D5 := Lib.hid (t11.obj D5.out n5_12); have D12 := Lib.hid d11; have PT := Lib.hid (PT.out.newer t11 l12)
    clear d11 t11
    have R1 := range_of_row D12.out
    go_wp2_with (refine wpList_load_mid rfl 23 _ rfl g12 0 rfl (lkC LKey0) _ R1 Try.underlying23 rfl infoHK ?_)
    clear R1
    refine (HPB.out _).mono ?_
    rintro e w12 ⟨rfl, t12⟩
    have D5 := Lib.hid (t12.obj D5.out (fun e => e))
    have D12 := Lib.hid (t12.obj D12.out (fun e => e))
    have PT := Lib.hid (PT.out.pure t12)
    clear t12
    have R1 := range_of_row D12.out
    go_wp2_with (refine wpList_load_mid rfl 23 _ rfl g12 0 rfl (lkC LKey0) _ R1 Try.underlying23 rfl infoHK ?_)
    clear R1
    refine (HSB.out _).mono ?_
    rintro e w13 ⟨rfl, t13⟩
    have D5 := Lib.hid (t13.obj D5.out (fun e => e))
    have D12 := Lib.hid (t13.obj D12.out (fun e => e))
    have PT := Lib.hid (PT.out.pure t13)
    clear t13
    go_wp2_with (refine wpList_allocZ rfl 23 rfl _ zeroHKs ?_)
    intro g16 w14 e0 c0 t0 s0
    have l16 : w.heap.size ≤ g16 := by have := PT.out.size; omega
    have n5_16 : g5 ≠ g16 := by have := (Array.getElem?_eq_some_iff.1 D5.out).1; omega
    have n12_16 : g12 ≠ g16 := by have := (Array.getElem?_eq_some_iff.1 D12.out).1; omega
    clear e0 s0
    go_wp2_with (refine wpList_store_blk rfl 23 _ _ rfl g16 _ (lkC LKey0) _ rfl rfl c0 rfl infoHK (lkC_one _) ?_)
    intro w15 d1 t1 s1
    clear s1
    have D5 := Lib.hid (t1.obj (t0.obj D5.out (fun e => e)) n5_16)
    have D12 := Lib.hid (t1.obj (t0.obj D12.out (fun e => e)) n12_16)
    have D16 := Lib.hid d1; have PT := Lib.hid ((PT.out.pure t0).newer t1 l16)
    clear c0 t0 d1 t1
    go_wp2_with fail
    refine (HVB.out _).mono ?_
    rintro e w16 ⟨rfl, t16⟩
    have D5 := Lib.hid (t16.obj D5.out (fun e => e))
    have D12 := Lib.hid (t16.obj D12.out (fun e => e))
    have PT := Lib.hid (PT.out.pure t16)
    clear t16
    have c4 := (HCC.out _ _ D5.out).2.2.2.2
    have fz : w16.frozen? ⟨g5, 4, none⟩ = false := frozen_of_row _ g5 4 _ _ D5.out
    obtain ⟨d2, t2, _⟩ := setAt (i := 4) (v := .int .i64 4) D5.out (by rw [HKL.out]; omega)
    rw [HSET.out] at d2
    have D12 := Lib.hid (t2.obj D12.out (Ne.symm n5_12)); have D5 := Lib.hid d2; have PT := Lib.hid (PT.out.newer t2 l5)
    have R1 := range_of_row D5.out
    clear d2 t2
    go_wp2_with (refine wpList_load_mid rfl 23 _ rfl g5 0 rfl (lkC K4) _ R1 Try.underlying23 rfl infoHK ?_)
    generalize w16.setCell ⟨g5, 4, none⟩ (.int .i64 4) = w17 at *
    clear R1 c4 fz
    refine (HS4.out _).mono ?_
    rintro e w18 ⟨rfl, t18⟩
    have D5 := Lib.hid (t18.obj D5.out (fun e => e))
    have D12 := Lib.hid (t18.obj D12.out (fun e => e))
    have PT := Lib.hid (PT.out.pure t18)
    clear t18
    go_wp2_with (refine wpList_allocZ rfl 23 rfl _ zeroHKs ?_)
    intro g20 w19 e0 c0 t0 s0
    have l20 : w.heap.size ≤ g20 := by have := PT.out.size; omega
    have n12_20 : g12 ≠ g20 := by have := (Array.getElem?_eq_some_iff.1 D12.out).1; omega
    clear e0 s0
    go_wp2_with (refine wpList_store_blk rfl 23 _ _ rfl g20 _ (lkC LKey0) _ rfl rfl c0 rfl infoHK (lkC_one _) ?_)
    intro w20 d1 t1 s1
    clear s1
    have D12 := Lib.hid (t1.obj (t0.obj D12.out (fun e => e)) n12_20)
    have D20 := Lib.hid d1; have PT := Lib.hid ((PT.out.pure t0).newer t1 l20)
    clear c0 t0 d1 t1
    have R1 := range_of_row D12.out
    go_wp2_with (first | (refine (Num9_any _ _).mono ?_; rintro e wn ⟨rfl, rfl⟩) | (refine wpList_load_midX (by rfl) 23 _ rfl g12 0 rfl (lkC LKey0) _ R1 Try.underlying23 rfl infoHK ?_))
    clear R1
    refine (HLB.out _).mono ?_
    rintro e w21 ⟨rfl, t21⟩
    have PT := Lib.hid (PT.out.pure t21)
    clear t21
    go_wp2_with (refine (Num9_any _ _).mono ?_; rintro e wn ⟨rfl, rfl⟩)
    go_ret
    exact ⟨rfl, PT.out⟩
  · obtain ⟨hPl, hLl, l1, l2, hPB, hSB, lP, lS⟩ := HLL.out
    have hb := HB.out.2.2.2.2.2
    obtain ⟨T, hT⟩ : ∃ T, T = S2 ++ [97] := ⟨_, rfl⟩
    obtain ⟨Q, hQ⟩ : ∃ Q, Q = beB 1 4 ++ (S1 ++ (L ++ T)) := ⟨_, rfl⟩
    have lT : T.length = 2221 := by rw [hT, List.length_append, l2]; rfl
    have eQ : SB ++ [97] = Q := by rw [hSB, hQ, hT]; simp only [List.append_assoc]
    have lQ : Q.length = 4501 := by rw [← eQ, List.length_append, lS]; rfl
    have zq : (bstr Q).size = 4501 := by rw [bstr_size, lQ]
    have n1 : ¬ (9223372036854775807 < 4500 + 1) := by decide
    have hver : hverifyV PB [109] Q = 600 := by rw [hPB, hQ]; exact HEND.out T (by omega)
    have hlq := HVerify_any
    have hvb := fun W => HVerify_any W PB [109] Q (by rw [lP]; decide) (by rw [lQ]; decide)
    rw [hver] at hvb
    rw [← eQ] at hvb
    have hpb := fun W => HPublic_any W B5
    rw [hpub_no hb] at hpb
    have hsb := fun W => HSign_any W B5 [109]
    rw [hsign_no hb] at hsb
    have hlb := fun W => HLeft_any W B5
    rw [hleft_no hb] at hlb
    have HPB := Lib.hid hpb; have HSB := Lib.hid hsb; have HLB := Lib.hid hlb; have HVB := Lib.hid hvb
    clear hlq hver hvb hpb hsb hlb hb hPl hLl l1 l2 hPB hSB lP lS hT hQ eQ lT lQ
    have c12 := HCC.out _ _ D12.out
    have fz : w10.frozen? ⟨g12, 0, none⟩ = false := frozen_of_row _ g12 0 _ _ D12.out
    obtain ⟨d2, t2, _⟩ := setAt (i := 0) (v := .int .i64 0) D12.out (by rw [HKL.out]; omega)
    rw [HQ.out.2.2.2.2] at d2
    have D5 := Lib.hid (t2.obj D5.out n5_12); have D12 := Lib.hid d2; have PT := Lib.hid (PT.out.newer t2 l12)
    have R1 := range_of_row D12.out
    clear d2 t2
    obtain ⟨_, _, _, _, _⟩ := c12
    obtain ⟨⟨x1, x2⟩, ⟨x3, x4⟩, ⟨x5, x6⟩, ⟨x7, x8⟩⟩ := HWW.out
    have hX1 := HX1.out
    obtain ⟨r1, r2⟩ := HR.out
    go_wp2_with (refine wpList_load_mid rfl 23 _ rfl g12 0 rfl (lkC B5) _ R1 Try.underlying23 rfl infoHK ?_)
    generalize w10.setCell ⟨g12, 0, none⟩ (.int .i64 0) = w11 at *
    clear R1 fz x1 x2 x3 x4 x5 x6 x7 x8 hX1 r1 r2
    refine (HPB.out _).mono ?_
    rintro e w12 ⟨rfl, t12⟩
    have D5 := Lib.hid (t12.obj D5.out (fun e => e))
    have D12 := Lib.hid (t12.obj D12.out (fun e => e))
    have PT := Lib.hid (PT.out.pure t12)
    clear t12
    have R1 := range_of_row D12.out
    go_wp2_with (refine wpList_load_mid rfl 23 _ rfl g12 0 rfl (lkC B5) _ R1 Try.underlying23 rfl infoHK ?_)
    clear R1
    refine (HSB.out _).mono ?_
    rintro e w13 ⟨rfl, t13⟩
    have D5 := Lib.hid (t13.obj D5.out (fun e => e))
    have D12 := Lib.hid (t13.obj D12.out (fun e => e))
    have PT := Lib.hid (PT.out.pure t13)
    clear t13
    go_wp2_with (refine wpList_allocZ rfl 23 rfl _ zeroHKs ?_)
    intro g16 w14 e0 c0 t0 s0
    have l16 : w.heap.size ≤ g16 := by have := PT.out.size; omega
    have n5_16 : g5 ≠ g16 := by have := (Array.getElem?_eq_some_iff.1 D5.out).1; omega
    have n12_16 : g12 ≠ g16 := by have := (Array.getElem?_eq_some_iff.1 D12.out).1; omega
    clear e0 s0
    go_wp2_with (refine wpList_store_blk rfl 23 _ _ rfl g16 _ (lkC LKey0) _ rfl rfl c0 rfl infoHK (lkC_one _) ?_)
    intro w15 d1 t1 s1
    clear s1
    have D5 := Lib.hid (t1.obj (t0.obj D5.out (fun e => e)) n5_16)
    have D12 := Lib.hid (t1.obj (t0.obj D12.out (fun e => e)) n12_16)
    have D16 := Lib.hid d1; have PT := Lib.hid ((PT.out.pure t0).newer t1 l16)
    clear c0 t0 d1 t1
    go_wp2_with fail
    refine (HVB.out _).mono ?_
    rintro e w16 ⟨rfl, t16⟩
    have D5 := Lib.hid (t16.obj D5.out (fun e => e))
    have D12 := Lib.hid (t16.obj D12.out (fun e => e))
    have PT := Lib.hid (PT.out.pure t16)
    clear t16
    have c4 := (HCC.out _ _ D5.out).2.2.2.2
    have fz : w16.frozen? ⟨g5, 4, none⟩ = false := frozen_of_row _ g5 4 _ _ D5.out
    obtain ⟨d2, t2, _⟩ := setAt (i := 4) (v := .int .i64 4) D5.out (by rw [HKL.out]; omega)
    rw [HSET.out] at d2
    have D12 := Lib.hid (t2.obj D12.out (Ne.symm n5_12)); have D5 := Lib.hid d2; have PT := Lib.hid (PT.out.newer t2 l5)
    have R1 := range_of_row D5.out
    clear d2 t2
    go_wp2_with (refine wpList_load_mid rfl 23 _ rfl g5 0 rfl (lkC K4) _ R1 Try.underlying23 rfl infoHK ?_)
    generalize w16.setCell ⟨g5, 4, none⟩ (.int .i64 4) = w17 at *
    clear R1 c4 fz
    refine (HS4.out _).mono ?_
    rintro e w18 ⟨rfl, t18⟩
    have D5 := Lib.hid (t18.obj D5.out (fun e => e))
    have D12 := Lib.hid (t18.obj D12.out (fun e => e))
    have PT := Lib.hid (PT.out.pure t18)
    clear t18
    go_wp2_with (refine wpList_allocZ rfl 23 rfl _ zeroHKs ?_)
    intro g20 w19 e0 c0 t0 s0
    have l20 : w.heap.size ≤ g20 := by have := PT.out.size; omega
    have n12_20 : g12 ≠ g20 := by have := (Array.getElem?_eq_some_iff.1 D12.out).1; omega
    clear e0 s0
    go_wp2_with (refine wpList_store_blk rfl 23 _ _ rfl g20 _ (lkC LKey0) _ rfl rfl c0 rfl infoHK (lkC_one _) ?_)
    intro w20 d1 t1 s1
    clear s1
    have D12 := Lib.hid (t1.obj (t0.obj D12.out (fun e => e)) n12_20)
    have D20 := Lib.hid d1; have PT := Lib.hid ((PT.out.pure t0).newer t1 l20)
    clear c0 t0 d1 t1
    have R1 := range_of_row D12.out
    go_wp2_with (first | (refine (Num9_any _ _).mono ?_; rintro e wn ⟨rfl, rfl⟩) | (refine wpList_load_midX (by rfl) 23 _ rfl g12 0 rfl (lkC B5) _ R1 Try.underlying23 rfl infoHK ?_))
    clear R1
    refine (HLB.out _).mono ?_
    rintro e w21 ⟨rfl, t21⟩
    have PT := Lib.hid (PT.out.pure t21)
    clear t21
    go_wp2_with (refine (Num9_any _ _).mono ?_; rintro e wn ⟨rfl, rfl⟩)
    go_ret
    exact ⟨rfl, PT.out⟩
end Go.Proofs.Ytcfbmbhkdicpfaa
