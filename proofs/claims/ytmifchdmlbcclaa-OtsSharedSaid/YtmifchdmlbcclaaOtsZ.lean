/- Chapter 4: the walks of the laws OtsForms, OtsShared. -/
import Derived.Test.YtmifchdmlbcclaaOtsY
namespace Go.Proofs.Ytmifchdmlbcclaa
open Go.RowKit

theorem and63 (x : Int) : ∃ H : Nat, H ≤ 63 ∧ bits .and .i64 x 63 = (H : Int) := by
  refine ⟨(BitVec.ofInt 64 x &&& BitVec.ofInt 64 63).toNat, ?_, ?_⟩
  · rw [BitVec.toNat_and]
    exact Nat.le_trans Nat.and_le_right (by decide)
  · have h : (BitVec.ofInt 64 x &&& BitVec.ofInt 64 63).toNat ≤ 63 := by
      rw [BitVec.toNat_and]
      exact Nat.le_trans Nat.and_le_right (by decide)
    show IntKind.i64.wrap (((BitVec.ofInt 64 x &&& BitVec.ofInt 64 63).toNat : Nat) : Int) = _
    exact IntWalk.i64_in _ (by omega)
theorem rem_at (x : Int) (k : Nat) (hk : 1 ≤ k) : ∃ a : Nat, a < k ∧ (IntKind.u64.wrap x).tmod (k : Int) = (a : Int) := by
  have h0 : 0 ≤ IntKind.u64.wrap x := by rw [IntKind.wrap_u64]; omega
  obtain ⟨y, hy⟩ : ∃ y : Nat, IntKind.u64.wrap x = (y : Int) := ⟨(IntKind.u64.wrap x).toNat, by omega⟩
  refine ⟨y % k, Nat.mod_lt _ (by omega), ?_⟩
  rw [hy, Int.tmod_eq_emod_of_nonneg (by omega)]
  omega


set_option maxRecDepth 100000 in
set_option maxHeartbeats 4000000 in
theorem OtsForms_any (wh x : Int) (w : World) : Calls Try.prog 6 #[.int .i64 wh, .int .i64 x] w fun e w' => e = .returned (.bool true) ∧ Pure w w' := by
  obtain ⟨X, hXl, HZ⟩ := ex28
  obtain ⟨H, hH, hand⟩ := and63 x
  obtain ⟨d, hd⟩ : ∃ d, d = 1 + H := ⟨_, rfl⟩
  have hd1 : 1 ≤ d ∧ d ≤ 64 := by omega
  have i0 : IntKind.i64.wrap (1 + (H : Int)) = (d : Int) := by rw [IntWalk.i64_in _ (by omega)]; omega
  have i0c : IntKind.i64.wrap (d : Int) = d := IntWalk.i64_in _ (by omega)
  clear hd
  have hf1 := fun W => filled_any W [105] 16 (by decide) (by decide)
  have hf2 := fun W => filled_any W [115] 32 (by decide) (by decide)
  have hf3 : ∀ W, Calls Try.prog 21 #[.string (bstr [115]), .int .i64 (32 + (d : Int))] W fun e w' => e = .returned (.string (bstr (filledV [115] (32 + d)))) ∧ Pure W w' := fun W => by
    have := filled_any W [115] (32 + d) (by omega) (by simp)
    rw [Int.natCast_add] at this
    exact this
  have hf4 : ∀ W, Calls Try.prog 21 #[.string (bstr [105]), .int .i64 (16 + (d : Int))] W fun e w' => e = .returned (.string (bstr (filledV [105] (16 + d)))) ∧ Pure W w' := fun W => by
    have := filled_any W [105] (16 + d) (by omega) (by simp)
    rw [Int.natCast_add] at this
    exact this
  have l1 := filledV_length [105] 16
  have l2 := filledV_length [115] 32
  have l3 := filledV_length [115] (32 + d)
  have l4 := filledV_length [105] (16 + d)
  generalize filledV [105] 16 = FI at hf1 l1
  generalize filledV [115] 32 = FS at hf2 l2
  generalize filledV [115] (32 + d) = FL at hf3 l3
  generalize filledV [105] (16 + d) = FJ at hf4 l4
  have i1 : IntKind.i64.wrap (32 + (d : Int)) = 32 + (d : Int) := IntWalk.i64_in _ (by omega)
  have i2 : IntKind.i64.wrap (16 + (d : Int)) = 16 + (d : Int) := IntWalk.i64_in _ (by omega)
  have hpk := fun W => Public_bad W 3 FI FL 7 (by omega) (fun h => by have := h.2.2; omega)
  have hs := fun W => Sign_3 W FI FS [109] 7 l1 (by decide) l2 (by decide)
  have hk := otsSignV_kind3 (placeV FI 7) FS [109]
  have hkp : ∃ c cs, (otsCV (placeV FI 7) FS = c) ∧ otsSignV 3 4 67 4 (placeV FI 7) FS [109] = [0, 0, 0, 3] ++ cs ∧ cs.length = 2176 := ⟨_, _, rfl, by rw [otsSignV, List.append_assoc]; rfl, by
    have := hk.2
    rw [otsSignV, List.append_assoc, List.length_append, beB_length] at this
    omega⟩
  obtain ⟨_, cs, _, hcs, hcl⟩ := hkp
  have hp3 := fun W => Public_3 W FI FS 7 l1 (by decide) l2
  have hPl : (otsPubV 4 67 (placeV FI 7) FS).length = 32 := shaV_length _
  generalize otsPubV 4 67 (placeV FI 7) FS = P at hp3 hPl
  generalize otsSignV 3 4 67 4 (placeV FI 7) FS [109] = SG at hs hk hcs
  have h32 : (List.replicate 32 (0 : UInt8)).length = 32 := by simp
  obtain ⟨ZH, hZH⟩ : ∃ ZH, ZH = List.replicate 32 (0 : UInt8) := ⟨_, rfl⟩
  rw [← hZH] at h32 hpk
  have hSl := hk.2
  obtain ⟨n, hn⟩ : ∃ n, n = 2180 := ⟨_, rfl⟩
  have zS : (bstr SG).size = n := by rw [bstr_size, hSl, hn]
  have q1 : ((n : Int) != 2180) = false := by rw [hn]; rfl
  have q2 : (n != 2180) = false := by rw [hn]; rfl
  have zI : (bstr FI).size = 16 := by rw [bstr_size, l1]
  obtain ⟨c, hc8, hrem⟩ := rem_at wh 8 (by omega)
  have HF1 := Lib.hid hf1; have HF2 := Lib.hid hf2; have HF3 := Lib.hid hf3; have HF4 := Lib.hid hf4; have HS := Lib.hid hs; have HP3 := Lib.hid hp3; have HPK := Lib.hid hpk
  have HSG := Lib.hid (And.intro hcs hcl); have HZH := Lib.hid hZH; have HN := Lib.hid hn
  clear hf1 hf2 hf3 hf4 hs hp3 hpk hk hcs hcl hZH hn hSl
  have PT := Lib.hid (Turn.refl (fun _ => False) w)
  have hSGl : SG.length = 2180 := by rw [HSG.out.1, List.length_append, HSG.out.2]; rfl
  have HSL := Lib.hid hSGl
  rcases (by omega : c = 0 ∨ c = 1 ∨ c = 2 ∨ c = 3 ∨ c = 4 ∨ c = 5 ∨ c = 6 ∨ c = 7) with rfl | rfl | rfl | rfl | rfl | rfl | rfl | rfl
  · have hr : (IntKind.u64.wrap wh).tmod 8 = 0 := hrem
    clear hrem hc8
    have hc := fun W => Candidate_bad W FJ [109] SG 7 (by omega) (by omega) (fun h => by have := (of_decide_eq_true h.2.1).1; omega)
    rw [← HZH.out] at hc
    have hpu := fun W => Public_bad W 3 FJ FS 7 (by omega) (fun h => by have := (of_decide_eq_true h.2.1).1; omega)
    rw [← HZH.out] at hpu
    have HC := Lib.hid hc; have HPU := Lib.hid hpu
    clear hc hpu hSGl
    go_enter Try.func6, Try.ntmps6
    go_wp2_with fail
    refine (awake4 _).mono ?_
    rintro e w0 ⟨rfl, t0⟩
    have PT := Lib.hid (PT.out.pure t0)
    clear t0
    go_wp2_with fail
    refine (HF1.out _).mono ?_
    rintro e w1 ⟨rfl, t1⟩
    have PT := Lib.hid (PT.out.pure t1)
    clear t1
    go_wp2_with fail
    refine (HF2.out _).mono ?_
    rintro e w2 ⟨rfl, t2⟩
    have PT := Lib.hid (PT.out.pure t2)
    clear t2
    go_wp2_with fail
    refine (HS.out _).mono ?_
    rintro e w3 ⟨rfl, t3⟩
    have PT := Lib.hid (PT.out.pure t3)
    clear t3
    go_wp2_with fail
    refine (Num9_any _ 0).mono ?_
    rintro e wn ⟨rfl, rfl⟩
    go_wp2_with fail
    refine (HF4.out _).mono ?_
    rintro e w4 ⟨rfl, t4⟩
    have PT := Lib.hid (PT.out.pure t4)
    clear t4
    go_wp2_with fail
    refine (HC.out _).mono ?_
    rintro e w5 ⟨rfl, t5⟩
    have PT := Lib.hid (PT.out.pure t5)
    clear t5
    go_wp2_with (refine wpList_allocZ rfl 23 rfl X HZ.out ?_)
    intro g12 x6 e6 c6 v6 s6
    have lg12 : w.heap.size ≤ g12 := by have := PT.out.size; omega
    clear e6
    go_wp2_with (refine wpList_store_blk rfl 23 _ _ rfl g12 _ (u8s ZH) _ rfl rfl c6 (size28 hXl h32) (info28_l h32) (u8s_one _) ?_)
    intro y6 d6 u6 _
    have PT := Lib.hid ((PT.out.pure v6).trans u6 fun q hq e => by omega : Pure w y6); have D12 := Lib.hid d6
    clear c6 v6 s6 d6 u6
    go_wp2_with fail
    refine (HPU.out _).mono ?_
    rintro e w7 ⟨rfl, t7⟩
    have PT := Lib.hid (PT.out.pure t7)
    have D12 := Lib.hid (t7.obj D12.out (fun e => e))
    clear t7
    go_wp2_with (refine wpList_allocZ rfl 23 rfl X HZ.out ?_)
    intro g14 x8 e8 c8 v8 s8
    have lg14 : w.heap.size ≤ g14 := by have := PT.out.size; omega
    have m12g14 : g12 < g14 := by have := (Array.getElem?_eq_some_iff.1 D12.out).1; omega
    clear e8
    go_wp2_with (refine wpList_store_blk rfl 23 _ _ rfl g14 _ (u8s ZH) _ rfl rfl c8 (size28 hXl h32) (info28_l h32) (u8s_one _) ?_)
    intro y8 d8 u8 _
    have PT := Lib.hid ((PT.out.pure v8).trans u8 fun q hq e => by omega : Pure w y8); have D14 := Lib.hid d8; have D12 := Lib.hid (u8.obj (v8.obj D12.out (fun e => e)) (by omega))
    clear c8 v8 s8 d8 u8
    go_wp2_with fail
    refine (HF1.out _).mono ?_
    rintro e w9 ⟨rfl, t9⟩
    have PT := Lib.hid (PT.out.pure t9)
    have D12 := Lib.hid (t9.obj D12.out (fun e => e))
    have D14 := Lib.hid (t9.obj D14.out (fun e => e))
    clear t9
    go_wp2_with fail
    refine (HF3.out _).mono ?_
    rintro e wa ⟨rfl, ta⟩
    have PT := Lib.hid (PT.out.pure ta)
    have D12 := Lib.hid (ta.obj D12.out (fun e => e))
    have D14 := Lib.hid (ta.obj D14.out (fun e => e))
    clear ta
    go_wp2_with fail
    refine (HPK.out _).mono ?_
    rintro e wb ⟨rfl, tb⟩
    have PT := Lib.hid (PT.out.pure tb)
    have D12 := Lib.hid (tb.obj D12.out (fun e => e))
    have D14 := Lib.hid (tb.obj D14.out (fun e => e))
    clear tb
    go_wp2_with (refine wpList_allocZ rfl 23 rfl X HZ.out ?_)
    intro g17 xc ec cc vc sc
    have lg17 : w.heap.size ≤ g17 := by have := PT.out.size; omega
    have m12g17 : g12 < g17 := by have := (Array.getElem?_eq_some_iff.1 D12.out).1; omega
    have m14g17 : g14 < g17 := by have := (Array.getElem?_eq_some_iff.1 D14.out).1; omega
    clear ec
    go_wp2_with (refine wpList_store_blk rfl 23 _ _ rfl g17 _ (u8s ZH) _ rfl rfl cc (size28 hXl h32) (info28_l h32) (u8s_one _) ?_)
    intro yc dc uc _
    have PT := Lib.hid ((PT.out.pure vc).trans uc fun q hq e => by omega : Pure w yc); have D17 := Lib.hid dc; have D12 := Lib.hid (uc.obj (vc.obj D12.out (fun e => e)) (by omega)); have D14 := Lib.hid (uc.obj (vc.obj D14.out (fun e => e)) (by omega))
    clear cc vc sc dc uc
    clear HC HPU HPK HF1 HF3 D12 D14 D17
    go_wp2_with fail
    refine (Num9_any _ 400).mono ?_
    rintro e wn ⟨rfl, rfl⟩
    go_wp2_with fail
    refine (Num9_any _ 400).mono ?_
    rintro e wn ⟨rfl, rfl⟩
    go_wp2_with fail
    refine (Num9_any _ 400).mono ?_
    rintro e wn ⟨rfl, rfl⟩
    go_wp2
    go_ret
    exact ⟨rfl, PT.out⟩
  · have hr : (IntKind.u64.wrap wh).tmod 8 = 1 := hrem
    clear hrem hc8
    obtain ⟨mn, hmn⟩ : ∃ mn, mn = min d 16 := ⟨_, rfl⟩
    obtain ⟨en, hen⟩ : ∃ en, en = 16 - mn := ⟨_, rfl⟩
    obtain ⟨FC, hFC⟩ : ∃ FC, FC = FI.take en := ⟨_, rfl⟩
    have lC : FC.length = en := by rw [hFC, List.length_take]; omega
    have hc := fun W => Candidate_bad W FC [109] SG 7 (by omega) (by omega) (fun h => by have := (of_decide_eq_true h.2.1).1; omega)
    rw [← HZH.out] at hc
    have hpu := fun W => Public_bad W 3 FC FS 7 (by omega) (fun h => by have := (of_decide_eq_true h.2.1).1; omega)
    rw [← HZH.out] at hpu
    have HC := Lib.hid hc; have HPU := Lib.hid hpu
    clear hc hpu hSGl
    have j1 : min (d : Int) 16 = (mn : Int) := by omega
    have j1b : (if (d : Int) ≤ 16 then (d : Int) else 16) = (mn : Int) := by split <;> omega
    have j2 : IntKind.i64.wrap (16 - (mn : Int)) = (en : Int) := by rw [IntWalk.i64_in _ (by omega)]; omega
    have j3 : (0 : Int) ≤ en := by omega
    have j4 : (en : Int) ≤ 16 := by omega
    have ex : (bstr FI).extract 0 en = bstr FC := by rw [bstr_ext, hFC]; rfl
    clear hmn hen hFC
    go_enter Try.func6, Try.ntmps6
    go_wp2_with fail
    refine (awake4 _).mono ?_
    rintro e w0 ⟨rfl, t0⟩
    have PT := Lib.hid (PT.out.pure t0)
    clear t0
    go_wp2_with fail
    refine (HF1.out _).mono ?_
    rintro e w1 ⟨rfl, t1⟩
    have PT := Lib.hid (PT.out.pure t1)
    clear t1
    go_wp2_with fail
    refine (HF2.out _).mono ?_
    rintro e w2 ⟨rfl, t2⟩
    have PT := Lib.hid (PT.out.pure t2)
    clear t2
    go_wp2_with fail
    refine (HS.out _).mono ?_
    rintro e w3 ⟨rfl, t3⟩
    have PT := Lib.hid (PT.out.pure t3)
    clear t3
    go_wp2_with fail
    refine (Num9_any _ 0).mono ?_
    rintro e wn ⟨rfl, rfl⟩
    go_wp2_with fail
    refine (HC.out _).mono ?_
    rintro e w5 ⟨rfl, t5⟩
    have PT := Lib.hid (PT.out.pure t5)
    clear t5
    go_wp2_with (refine wpList_allocZ rfl 23 rfl X HZ.out ?_)
    intro g12 x6 e6 c6 v6 s6
    have lg12 : w.heap.size ≤ g12 := by have := PT.out.size; omega
    clear e6
    go_wp2_with (refine wpList_store_blk rfl 23 _ _ rfl g12 _ (u8s ZH) _ rfl rfl c6 (size28 hXl h32) (info28_l h32) (u8s_one _) ?_)
    intro y6 d6 u6 _
    have PT := Lib.hid ((PT.out.pure v6).trans u6 fun q hq e => by omega : Pure w y6); have D12 := Lib.hid d6
    clear c6 v6 s6 d6 u6
    go_wp2_with fail
    refine (HPU.out _).mono ?_
    rintro e w7 ⟨rfl, t7⟩
    have PT := Lib.hid (PT.out.pure t7)
    have D12 := Lib.hid (t7.obj D12.out (fun e => e))
    clear t7
    go_wp2_with (refine wpList_allocZ rfl 23 rfl X HZ.out ?_)
    intro g14 x8 e8 c8 v8 s8
    have lg14 : w.heap.size ≤ g14 := by have := PT.out.size; omega
    have m12g14 : g12 < g14 := by have := (Array.getElem?_eq_some_iff.1 D12.out).1; omega
    clear e8
    go_wp2_with (refine wpList_store_blk rfl 23 _ _ rfl g14 _ (u8s ZH) _ rfl rfl c8 (size28 hXl h32) (info28_l h32) (u8s_one _) ?_)
    intro y8 d8 u8 _
    have PT := Lib.hid ((PT.out.pure v8).trans u8 fun q hq e => by omega : Pure w y8); have D14 := Lib.hid d8; have D12 := Lib.hid (u8.obj (v8.obj D12.out (fun e => e)) (by omega))
    clear c8 v8 s8 d8 u8
    go_wp2_with fail
    refine (HF1.out _).mono ?_
    rintro e w9 ⟨rfl, t9⟩
    have PT := Lib.hid (PT.out.pure t9)
    have D12 := Lib.hid (t9.obj D12.out (fun e => e))
    have D14 := Lib.hid (t9.obj D14.out (fun e => e))
    clear t9
    go_wp2_with fail
    refine (HF3.out _).mono ?_
    rintro e wa ⟨rfl, ta⟩
    have PT := Lib.hid (PT.out.pure ta)
    have D12 := Lib.hid (ta.obj D12.out (fun e => e))
    have D14 := Lib.hid (ta.obj D14.out (fun e => e))
    clear ta
    go_wp2_with fail
    refine (HPK.out _).mono ?_
    rintro e wb ⟨rfl, tb⟩
    have PT := Lib.hid (PT.out.pure tb)
    have D12 := Lib.hid (tb.obj D12.out (fun e => e))
    have D14 := Lib.hid (tb.obj D14.out (fun e => e))
    clear tb
    go_wp2_with (refine wpList_allocZ rfl 23 rfl X HZ.out ?_)
    intro g17 xc ec cc vc sc
    have lg17 : w.heap.size ≤ g17 := by have := PT.out.size; omega
    have m12g17 : g12 < g17 := by have := (Array.getElem?_eq_some_iff.1 D12.out).1; omega
    have m14g17 : g14 < g17 := by have := (Array.getElem?_eq_some_iff.1 D14.out).1; omega
    clear ec
    go_wp2_with (refine wpList_store_blk rfl 23 _ _ rfl g17 _ (u8s ZH) _ rfl rfl cc (size28 hXl h32) (info28_l h32) (u8s_one _) ?_)
    intro yc dc uc _
    have PT := Lib.hid ((PT.out.pure vc).trans uc fun q hq e => by omega : Pure w yc); have D17 := Lib.hid dc; have D12 := Lib.hid (uc.obj (vc.obj D12.out (fun e => e)) (by omega)); have D14 := Lib.hid (uc.obj (vc.obj D14.out (fun e => e)) (by omega))
    clear cc vc sc dc uc
    clear HC HPU HPK HF1 HF3 D12 D14 D17
    go_wp2_with fail
    refine (Num9_any _ 400).mono ?_
    rintro e wn ⟨rfl, rfl⟩
    go_wp2_with fail
    refine (Num9_any _ 400).mono ?_
    rintro e wn ⟨rfl, rfl⟩
    go_wp2_with fail
    refine (Num9_any _ 400).mono ?_
    rintro e wn ⟨rfl, rfl⟩
    go_wp2
    go_ret
    exact ⟨rfl, PT.out⟩
  · have hr : (IntKind.u64.wrap wh).tmod 8 = 2 := hrem
    clear hrem hc8
    have hc := fun W => Candidate_bad W FI [109] SG (-(d : Int)) (by omega) (by omega) (fun h => by have := (of_decide_eq_true h.2.1).2.1; omega)
    rw [← HZH.out] at hc
    have hpu := fun W => Public_bad W 3 FI FS (-(d : Int)) (by omega) (fun h => by have := (of_decide_eq_true h.2.1).2.1; omega)
    rw [← HZH.out] at hpu
    have HC := Lib.hid hc; have HPU := Lib.hid hpu
    clear hc hpu hSGl
    have j1 : IntKind.i64.wrap (-(d : Int)) = -(d : Int) := IntWalk.i64_in _ (by omega)
    go_enter Try.func6, Try.ntmps6
    go_wp2_with fail
    refine (awake4 _).mono ?_
    rintro e w0 ⟨rfl, t0⟩
    have PT := Lib.hid (PT.out.pure t0)
    clear t0
    go_wp2_with fail
    refine (HF1.out _).mono ?_
    rintro e w1 ⟨rfl, t1⟩
    have PT := Lib.hid (PT.out.pure t1)
    clear t1
    go_wp2_with fail
    refine (HF2.out _).mono ?_
    rintro e w2 ⟨rfl, t2⟩
    have PT := Lib.hid (PT.out.pure t2)
    clear t2
    go_wp2_with fail
    refine (HS.out _).mono ?_
    rintro e w3 ⟨rfl, t3⟩
    have PT := Lib.hid (PT.out.pure t3)
    clear t3
    go_wp2_with fail
    refine (Num9_any _ 0).mono ?_
    rintro e wn ⟨rfl, rfl⟩
    go_wp2_with fail
    refine (HC.out _).mono ?_
    rintro e w5 ⟨rfl, t5⟩
    have PT := Lib.hid (PT.out.pure t5)
    clear t5
    go_wp2_with (refine wpList_allocZ rfl 23 rfl X HZ.out ?_)
    intro g12 x6 e6 c6 v6 s6
    have lg12 : w.heap.size ≤ g12 := by have := PT.out.size; omega
    clear e6
    go_wp2_with (refine wpList_store_blk rfl 23 _ _ rfl g12 _ (u8s ZH) _ rfl rfl c6 (size28 hXl h32) (info28_l h32) (u8s_one _) ?_)
    intro y6 d6 u6 _
    have PT := Lib.hid ((PT.out.pure v6).trans u6 fun q hq e => by omega : Pure w y6); have D12 := Lib.hid d6
    clear c6 v6 s6 d6 u6
    go_wp2_with fail
    refine (HPU.out _).mono ?_
    rintro e w7 ⟨rfl, t7⟩
    have PT := Lib.hid (PT.out.pure t7)
    have D12 := Lib.hid (t7.obj D12.out (fun e => e))
    clear t7
    go_wp2_with (refine wpList_allocZ rfl 23 rfl X HZ.out ?_)
    intro g14 x8 e8 c8 v8 s8
    have lg14 : w.heap.size ≤ g14 := by have := PT.out.size; omega
    have m12g14 : g12 < g14 := by have := (Array.getElem?_eq_some_iff.1 D12.out).1; omega
    clear e8
    go_wp2_with (refine wpList_store_blk rfl 23 _ _ rfl g14 _ (u8s ZH) _ rfl rfl c8 (size28 hXl h32) (info28_l h32) (u8s_one _) ?_)
    intro y8 d8 u8 _
    have PT := Lib.hid ((PT.out.pure v8).trans u8 fun q hq e => by omega : Pure w y8); have D14 := Lib.hid d8; have D12 := Lib.hid (u8.obj (v8.obj D12.out (fun e => e)) (by omega))
    clear c8 v8 s8 d8 u8
    go_wp2_with fail
    refine (HF1.out _).mono ?_
    rintro e w9 ⟨rfl, t9⟩
    have PT := Lib.hid (PT.out.pure t9)
    have D12 := Lib.hid (t9.obj D12.out (fun e => e))
    have D14 := Lib.hid (t9.obj D14.out (fun e => e))
    clear t9
    go_wp2_with fail
    refine (HF3.out _).mono ?_
    rintro e wa ⟨rfl, ta⟩
    have PT := Lib.hid (PT.out.pure ta)
    have D12 := Lib.hid (ta.obj D12.out (fun e => e))
    have D14 := Lib.hid (ta.obj D14.out (fun e => e))
    clear ta
    go_wp2_with fail
    refine (HPK.out _).mono ?_
    rintro e wb ⟨rfl, tb⟩
    have PT := Lib.hid (PT.out.pure tb)
    have D12 := Lib.hid (tb.obj D12.out (fun e => e))
    have D14 := Lib.hid (tb.obj D14.out (fun e => e))
    clear tb
    go_wp2_with (refine wpList_allocZ rfl 23 rfl X HZ.out ?_)
    intro g17 xc ec cc vc sc
    have lg17 : w.heap.size ≤ g17 := by have := PT.out.size; omega
    have m12g17 : g12 < g17 := by have := (Array.getElem?_eq_some_iff.1 D12.out).1; omega
    have m14g17 : g14 < g17 := by have := (Array.getElem?_eq_some_iff.1 D14.out).1; omega
    clear ec
    go_wp2_with (refine wpList_store_blk rfl 23 _ _ rfl g17 _ (u8s ZH) _ rfl rfl cc (size28 hXl h32) (info28_l h32) (u8s_one _) ?_)
    intro yc dc uc _
    have PT := Lib.hid ((PT.out.pure vc).trans uc fun q hq e => by omega : Pure w yc); have D17 := Lib.hid dc; have D12 := Lib.hid (uc.obj (vc.obj D12.out (fun e => e)) (by omega)); have D14 := Lib.hid (uc.obj (vc.obj D14.out (fun e => e)) (by omega))
    clear cc vc sc dc uc
    clear HC HPU HPK HF1 HF3 D12 D14 D17
    go_wp2_with fail
    refine (Num9_any _ 400).mono ?_
    rintro e wn ⟨rfl, rfl⟩
    go_wp2_with fail
    refine (Num9_any _ 400).mono ?_
    rintro e wn ⟨rfl, rfl⟩
    go_wp2_with fail
    refine (Num9_any _ 400).mono ?_
    rintro e wn ⟨rfl, rfl⟩
    go_wp2
    go_ret
    exact ⟨rfl, PT.out⟩
  · have hr : (IntKind.u64.wrap wh).tmod 8 = 3 := hrem
    clear hrem hc8
    have hc := fun W => Candidate_bad W FI [109] SG (4294967295 + (d : Int)) (by omega) (by omega) (fun h => by have := (of_decide_eq_true h.2.1).2.2; omega)
    rw [← HZH.out] at hc
    have hpu := fun W => Public_bad W 3 FI FS (4294967295 + (d : Int)) (by omega) (fun h => by have := (of_decide_eq_true h.2.1).2.2; omega)
    rw [← HZH.out] at hpu
    have HC := Lib.hid hc; have HPU := Lib.hid hpu
    clear hc hpu hSGl
    have j1 : IntKind.i64.wrap (4294967295 + (d : Int)) = 4294967295 + (d : Int) := IntWalk.i64_in _ (by omega)
    go_enter Try.func6, Try.ntmps6
    go_wp2_with fail
    refine (awake4 _).mono ?_
    rintro e w0 ⟨rfl, t0⟩
    have PT := Lib.hid (PT.out.pure t0)
    clear t0
    go_wp2_with fail
    refine (HF1.out _).mono ?_
    rintro e w1 ⟨rfl, t1⟩
    have PT := Lib.hid (PT.out.pure t1)
    clear t1
    go_wp2_with fail
    refine (HF2.out _).mono ?_
    rintro e w2 ⟨rfl, t2⟩
    have PT := Lib.hid (PT.out.pure t2)
    clear t2
    go_wp2_with fail
    refine (HS.out _).mono ?_
    rintro e w3 ⟨rfl, t3⟩
    have PT := Lib.hid (PT.out.pure t3)
    clear t3
    go_wp2_with fail
    refine (Num9_any _ 0).mono ?_
    rintro e wn ⟨rfl, rfl⟩
    go_wp2_with fail
    refine (HC.out _).mono ?_
    rintro e w5 ⟨rfl, t5⟩
    have PT := Lib.hid (PT.out.pure t5)
    clear t5
    go_wp2_with (refine wpList_allocZ rfl 23 rfl X HZ.out ?_)
    intro g12 x6 e6 c6 v6 s6
    have lg12 : w.heap.size ≤ g12 := by have := PT.out.size; omega
    clear e6
    go_wp2_with (refine wpList_store_blk rfl 23 _ _ rfl g12 _ (u8s ZH) _ rfl rfl c6 (size28 hXl h32) (info28_l h32) (u8s_one _) ?_)
    intro y6 d6 u6 _
    have PT := Lib.hid ((PT.out.pure v6).trans u6 fun q hq e => by omega : Pure w y6); have D12 := Lib.hid d6
    clear c6 v6 s6 d6 u6
    go_wp2_with fail
    refine (HPU.out _).mono ?_
    rintro e w7 ⟨rfl, t7⟩
    have PT := Lib.hid (PT.out.pure t7)
    have D12 := Lib.hid (t7.obj D12.out (fun e => e))
    clear t7
    go_wp2_with (refine wpList_allocZ rfl 23 rfl X HZ.out ?_)
    intro g14 x8 e8 c8 v8 s8
    have lg14 : w.heap.size ≤ g14 := by have := PT.out.size; omega
    have m12g14 : g12 < g14 := by have := (Array.getElem?_eq_some_iff.1 D12.out).1; omega
    clear e8
    go_wp2_with (refine wpList_store_blk rfl 23 _ _ rfl g14 _ (u8s ZH) _ rfl rfl c8 (size28 hXl h32) (info28_l h32) (u8s_one _) ?_)
    intro y8 d8 u8 _
    have PT := Lib.hid ((PT.out.pure v8).trans u8 fun q hq e => by omega : Pure w y8); have D14 := Lib.hid d8; have D12 := Lib.hid (u8.obj (v8.obj D12.out (fun e => e)) (by omega))
    clear c8 v8 s8 d8 u8
    go_wp2_with fail
    refine (HF1.out _).mono ?_
    rintro e w9 ⟨rfl, t9⟩
    have PT := Lib.hid (PT.out.pure t9)
    have D12 := Lib.hid (t9.obj D12.out (fun e => e))
    have D14 := Lib.hid (t9.obj D14.out (fun e => e))
    clear t9
    go_wp2_with fail
    refine (HF3.out _).mono ?_
    rintro e wa ⟨rfl, ta⟩
    have PT := Lib.hid (PT.out.pure ta)
    have D12 := Lib.hid (ta.obj D12.out (fun e => e))
    have D14 := Lib.hid (ta.obj D14.out (fun e => e))
    clear ta
    go_wp2_with fail
    refine (HPK.out _).mono ?_
    rintro e wb ⟨rfl, tb⟩
    have PT := Lib.hid (PT.out.pure tb)
    have D12 := Lib.hid (tb.obj D12.out (fun e => e))
    have D14 := Lib.hid (tb.obj D14.out (fun e => e))
    clear tb
    go_wp2_with (refine wpList_allocZ rfl 23 rfl X HZ.out ?_)
    intro g17 xc ec cc vc sc
    have lg17 : w.heap.size ≤ g17 := by have := PT.out.size; omega
    have m12g17 : g12 < g17 := by have := (Array.getElem?_eq_some_iff.1 D12.out).1; omega
    have m14g17 : g14 < g17 := by have := (Array.getElem?_eq_some_iff.1 D14.out).1; omega
    clear ec
    go_wp2_with (refine wpList_store_blk rfl 23 _ _ rfl g17 _ (u8s ZH) _ rfl rfl cc (size28 hXl h32) (info28_l h32) (u8s_one _) ?_)
    intro yc dc uc _
    have PT := Lib.hid ((PT.out.pure vc).trans uc fun q hq e => by omega : Pure w yc); have D17 := Lib.hid dc; have D12 := Lib.hid (uc.obj (vc.obj D12.out (fun e => e)) (by omega)); have D14 := Lib.hid (uc.obj (vc.obj D14.out (fun e => e)) (by omega))
    clear cc vc sc dc uc
    clear HC HPU HPK HF1 HF3 D12 D14 D17
    go_wp2_with fail
    refine (Num9_any _ 400).mono ?_
    rintro e wn ⟨rfl, rfl⟩
    go_wp2_with fail
    refine (Num9_any _ 400).mono ?_
    rintro e wn ⟨rfl, rfl⟩
    go_wp2_with fail
    refine (Num9_any _ 400).mono ?_
    rintro e wn ⟨rfl, rfl⟩
    go_wp2
    go_ret
    exact ⟨rfl, PT.out⟩
  · have hr : (IntKind.u64.wrap wh).tmod 8 = 4 := hrem
    clear hrem hc8
    obtain ⟨TC, hTC⟩ : ∃ TC, TC = SG.take d := ⟨_, rfl⟩
    obtain ⟨SC, hSC⟩ : ∃ SC, SC = SG ++ TC := ⟨_, rfl⟩
    have lT : TC.length = d := by rw [hTC, List.length_take]; omega
    have lC : SC.length = 2180 + d := by rw [hSC, List.length_append, hSGl, lT]
    have hc := fun W => Candidate_bad W FI [109] SC 7 (by omega) (by omega) (fun h => by rcases kindSV_parts h.1 with ⟨e, hl⟩ | ⟨e, hl⟩ <;> omega)
    rw [← HZH.out] at hc
    have hpu := HP3.out
    have HC := Lib.hid hc; have HPU := Lib.hid hpu
    clear hc hpu hSGl
    have ex : (bstr SG).extract 0 d = bstr TC := by rw [bstr_ext, hTC]; rfl
    have ap : bstr SG ++ bstr TC = bstr SC := by rw [hSC]; exact bstr_app _ _
    have zT : (bstr TC).size = d := by rw [bstr_size, lT]
    have j3 : (0 : Int) ≤ d := by omega
    have j4 : (d : Int) ≤ n := by have := HN.out; omega
    have nn : ¬ (9223372036854775807 < n + d) := by have := HN.out; omega
    clear hTC hSC
    go_enter Try.func6, Try.ntmps6
    go_wp2_with fail
    refine (awake4 _).mono ?_
    rintro e w0 ⟨rfl, t0⟩
    have PT := Lib.hid (PT.out.pure t0)
    clear t0
    go_wp2_with fail
    refine (HF1.out _).mono ?_
    rintro e w1 ⟨rfl, t1⟩
    have PT := Lib.hid (PT.out.pure t1)
    clear t1
    go_wp2_with fail
    refine (HF2.out _).mono ?_
    rintro e w2 ⟨rfl, t2⟩
    have PT := Lib.hid (PT.out.pure t2)
    clear t2
    go_wp2_with fail
    refine (HS.out _).mono ?_
    rintro e w3 ⟨rfl, t3⟩
    have PT := Lib.hid (PT.out.pure t3)
    clear t3
    go_wp2_with fail
    refine (Num9_any _ 0).mono ?_
    rintro e wn ⟨rfl, rfl⟩
    go_wp2_with fail
    refine (HC.out _).mono ?_
    rintro e w5 ⟨rfl, t5⟩
    have PT := Lib.hid (PT.out.pure t5)
    clear t5
    go_wp2_with (refine wpList_allocZ rfl 23 rfl X HZ.out ?_)
    intro g12 x6 e6 c6 v6 s6
    have lg12 : w.heap.size ≤ g12 := by have := PT.out.size; omega
    clear e6
    go_wp2_with (refine wpList_store_blk rfl 23 _ _ rfl g12 _ (u8s ZH) _ rfl rfl c6 (size28 hXl h32) (info28_l h32) (u8s_one _) ?_)
    intro y6 d6 u6 _
    have PT := Lib.hid ((PT.out.pure v6).trans u6 fun q hq e => by omega : Pure w y6); have D12 := Lib.hid d6
    clear c6 v6 s6 d6 u6
    go_wp2_with fail
    refine (HPU.out _).mono ?_
    rintro e w7 ⟨rfl, t7⟩
    have PT := Lib.hid (PT.out.pure t7)
    have D12 := Lib.hid (t7.obj D12.out (fun e => e))
    clear t7
    go_wp2_with (refine wpList_allocZ rfl 23 rfl X HZ.out ?_)
    intro g14 x8 e8 c8 v8 s8
    have lg14 : w.heap.size ≤ g14 := by have := PT.out.size; omega
    have m12g14 : g12 < g14 := by have := (Array.getElem?_eq_some_iff.1 D12.out).1; omega
    clear e8
    go_wp2_with (refine wpList_store_blk rfl 23 _ _ rfl g14 _ (u8s P) _ rfl rfl c8 (size28 hXl hPl) (info28_l hPl) (u8s_one _) ?_)
    intro y8 d8 u8 _
    have PT := Lib.hid ((PT.out.pure v8).trans u8 fun q hq e => by omega : Pure w y8); have D14 := Lib.hid d8; have D12 := Lib.hid (u8.obj (v8.obj D12.out (fun e => e)) (by omega))
    clear c8 v8 s8 d8 u8
    go_wp2_with fail
    refine (HF1.out _).mono ?_
    rintro e w9 ⟨rfl, t9⟩
    have PT := Lib.hid (PT.out.pure t9)
    have D12 := Lib.hid (t9.obj D12.out (fun e => e))
    have D14 := Lib.hid (t9.obj D14.out (fun e => e))
    clear t9
    go_wp2_with fail
    refine (HF3.out _).mono ?_
    rintro e wa ⟨rfl, ta⟩
    have PT := Lib.hid (PT.out.pure ta)
    have D12 := Lib.hid (ta.obj D12.out (fun e => e))
    have D14 := Lib.hid (ta.obj D14.out (fun e => e))
    clear ta
    go_wp2_with fail
    refine (HPK.out _).mono ?_
    rintro e wb ⟨rfl, tb⟩
    have PT := Lib.hid (PT.out.pure tb)
    have D12 := Lib.hid (tb.obj D12.out (fun e => e))
    have D14 := Lib.hid (tb.obj D14.out (fun e => e))
    clear tb
    go_wp2_with (refine wpList_allocZ rfl 23 rfl X HZ.out ?_)
    intro g17 xc ec cc vc sc
    have lg17 : w.heap.size ≤ g17 := by have := PT.out.size; omega
    have m12g17 : g12 < g17 := by have := (Array.getElem?_eq_some_iff.1 D12.out).1; omega
    have m14g17 : g14 < g17 := by have := (Array.getElem?_eq_some_iff.1 D14.out).1; omega
    clear ec
    go_wp2_with (refine wpList_store_blk rfl 23 _ _ rfl g17 _ (u8s ZH) _ rfl rfl cc (size28 hXl h32) (info28_l h32) (u8s_one _) ?_)
    intro yc dc uc _
    have PT := Lib.hid ((PT.out.pure vc).trans uc fun q hq e => by omega : Pure w yc); have D17 := Lib.hid dc; have D12 := Lib.hid (uc.obj (vc.obj D12.out (fun e => e)) (by omega)); have D14 := Lib.hid (uc.obj (vc.obj D14.out (fun e => e)) (by omega))
    clear cc vc sc dc uc
    clear HC HPU HPK HF1 HF3 D12 D14 D17
    go_wp2_with fail
    refine (Num9_any _ 400).mono ?_
    rintro e wn ⟨rfl, rfl⟩
    go_wp2_with fail
    refine (Num9_any _ 0).mono ?_
    rintro e wn ⟨rfl, rfl⟩
    go_wp2_with fail
    refine (Num9_any _ 400).mono ?_
    rintro e wn ⟨rfl, rfl⟩
    go_wp2
    go_ret
    exact ⟨rfl, PT.out⟩
  · have hr : (IntKind.u64.wrap wh).tmod 8 = 5 := hrem
    clear hrem hc8
    obtain ⟨en, hen⟩ : ∃ en, en = 2180 - d := ⟨_, rfl⟩
    obtain ⟨SC, hSC⟩ : ∃ SC, SC = SG.take en := ⟨_, rfl⟩
    have lC : SC.length = en := by rw [hSC, List.length_take]; omega
    have hc := fun W => Candidate_bad W FI [109] SC 7 (by omega) (by omega) (fun h => by rcases kindSV_parts h.1 with ⟨e, hl⟩ | ⟨e, hl⟩ <;> omega)
    rw [← HZH.out] at hc
    have hpu := HP3.out
    have HC := Lib.hid hc; have HPU := Lib.hid hpu
    clear hc hpu hSGl
    have ex : (bstr SG).extract 0 en = bstr SC := by rw [bstr_ext, hSC]; rfl
    have j1 : IntKind.i64.wrap ((n : Int) - (d : Int)) = (en : Int) := by have := HN.out; rw [IntWalk.i64_in _ (by omega)]; omega
    have j3 : (0 : Int) ≤ en := by omega
    have j4 : (en : Int) ≤ n := by have := HN.out; omega
    clear hSC hen
    go_enter Try.func6, Try.ntmps6
    go_wp2_with fail
    refine (awake4 _).mono ?_
    rintro e w0 ⟨rfl, t0⟩
    have PT := Lib.hid (PT.out.pure t0)
    clear t0
    go_wp2_with fail
    refine (HF1.out _).mono ?_
    rintro e w1 ⟨rfl, t1⟩
    have PT := Lib.hid (PT.out.pure t1)
    clear t1
    go_wp2_with fail
    refine (HF2.out _).mono ?_
    rintro e w2 ⟨rfl, t2⟩
    have PT := Lib.hid (PT.out.pure t2)
    clear t2
    go_wp2_with fail
    refine (HS.out _).mono ?_
    rintro e w3 ⟨rfl, t3⟩
    have PT := Lib.hid (PT.out.pure t3)
    clear t3
    go_wp2_with fail
    refine (Num9_any _ 0).mono ?_
    rintro e wn ⟨rfl, rfl⟩
    go_wp2_with fail
    refine (HC.out _).mono ?_
    rintro e w5 ⟨rfl, t5⟩
    have PT := Lib.hid (PT.out.pure t5)
    clear t5
    go_wp2_with (refine wpList_allocZ rfl 23 rfl X HZ.out ?_)
    intro g12 x6 e6 c6 v6 s6
    have lg12 : w.heap.size ≤ g12 := by have := PT.out.size; omega
    clear e6
    go_wp2_with (refine wpList_store_blk rfl 23 _ _ rfl g12 _ (u8s ZH) _ rfl rfl c6 (size28 hXl h32) (info28_l h32) (u8s_one _) ?_)
    intro y6 d6 u6 _
    have PT := Lib.hid ((PT.out.pure v6).trans u6 fun q hq e => by omega : Pure w y6); have D12 := Lib.hid d6
    clear c6 v6 s6 d6 u6
    go_wp2_with fail
    refine (HPU.out _).mono ?_
    rintro e w7 ⟨rfl, t7⟩
    have PT := Lib.hid (PT.out.pure t7)
    have D12 := Lib.hid (t7.obj D12.out (fun e => e))
    clear t7
    go_wp2_with (refine wpList_allocZ rfl 23 rfl X HZ.out ?_)
    intro g14 x8 e8 c8 v8 s8
    have lg14 : w.heap.size ≤ g14 := by have := PT.out.size; omega
    have m12g14 : g12 < g14 := by have := (Array.getElem?_eq_some_iff.1 D12.out).1; omega
    clear e8
    go_wp2_with (refine wpList_store_blk rfl 23 _ _ rfl g14 _ (u8s P) _ rfl rfl c8 (size28 hXl hPl) (info28_l hPl) (u8s_one _) ?_)
    intro y8 d8 u8 _
    have PT := Lib.hid ((PT.out.pure v8).trans u8 fun q hq e => by omega : Pure w y8); have D14 := Lib.hid d8; have D12 := Lib.hid (u8.obj (v8.obj D12.out (fun e => e)) (by omega))
    clear c8 v8 s8 d8 u8
    go_wp2_with fail
    refine (HF1.out _).mono ?_
    rintro e w9 ⟨rfl, t9⟩
    have PT := Lib.hid (PT.out.pure t9)
    have D12 := Lib.hid (t9.obj D12.out (fun e => e))
    have D14 := Lib.hid (t9.obj D14.out (fun e => e))
    clear t9
    go_wp2_with fail
    refine (HF3.out _).mono ?_
    rintro e wa ⟨rfl, ta⟩
    have PT := Lib.hid (PT.out.pure ta)
    have D12 := Lib.hid (ta.obj D12.out (fun e => e))
    have D14 := Lib.hid (ta.obj D14.out (fun e => e))
    clear ta
    go_wp2_with fail
    refine (HPK.out _).mono ?_
    rintro e wb ⟨rfl, tb⟩
    have PT := Lib.hid (PT.out.pure tb)
    have D12 := Lib.hid (tb.obj D12.out (fun e => e))
    have D14 := Lib.hid (tb.obj D14.out (fun e => e))
    clear tb
    go_wp2_with (refine wpList_allocZ rfl 23 rfl X HZ.out ?_)
    intro g17 xc ec cc vc sc
    have lg17 : w.heap.size ≤ g17 := by have := PT.out.size; omega
    have m12g17 : g12 < g17 := by have := (Array.getElem?_eq_some_iff.1 D12.out).1; omega
    have m14g17 : g14 < g17 := by have := (Array.getElem?_eq_some_iff.1 D14.out).1; omega
    clear ec
    go_wp2_with (refine wpList_store_blk rfl 23 _ _ rfl g17 _ (u8s ZH) _ rfl rfl cc (size28 hXl h32) (info28_l h32) (u8s_one _) ?_)
    intro yc dc uc _
    have PT := Lib.hid ((PT.out.pure vc).trans uc fun q hq e => by omega : Pure w yc); have D17 := Lib.hid dc; have D12 := Lib.hid (uc.obj (vc.obj D12.out (fun e => e)) (by omega)); have D14 := Lib.hid (uc.obj (vc.obj D14.out (fun e => e)) (by omega))
    clear cc vc sc dc uc
    clear HC HPU HPK HF1 HF3 D12 D14 D17
    go_wp2_with fail
    refine (Num9_any _ 400).mono ?_
    rintro e wn ⟨rfl, rfl⟩
    go_wp2_with fail
    refine (Num9_any _ 0).mono ?_
    rintro e wn ⟨rfl, rfl⟩
    go_wp2_with fail
    refine (Num9_any _ 400).mono ?_
    rintro e wn ⟨rfl, rfl⟩
    go_wp2
    go_ret
    exact ⟨rfl, PT.out⟩
  · have hr : (IntKind.u64.wrap wh).tmod 8 = 6 := hrem
    clear hrem hc8
    obtain ⟨SC, hSC⟩ : ∃ SC, SC = [0, 0, 0, 4] ++ cs := ⟨_, rfl⟩
    have lC : SC.length = 2180 := by rw [hSC, List.length_append, HSG.out.2]; rfl
    have hk4 : k4V SC = 4 := by
      rw [hSC]
      show bits .or .i64 (bits .or .i64 (bits .or .i64 ((0 : Int) * 16777216) ((0 : Int) * 65536)) ((0 : Int) * 256)) (4 : Int) = 4
      decide
    have hks : (kindSV SC).2 = false := by
      rw [kindSV, if_neg (by omega), hk4, lC]
      decide
    have hc := fun W => Candidate_bad W FI [109] SC 7 (by omega) (by omega) (fun h => by rw [hks] at h; exact absurd h.1 (by decide))
    rw [← HZH.out] at hc
    have hpu := HP3.out
    have HC := Lib.hid hc; have HPU := Lib.hid hpu
    clear hc hpu hSGl
    have ex : (bstr SG).extract 4 n = bstr cs := by
      rw [bstr_ext, HN.out, HSG.out.1]
      rw [List.take_of_length_le (by rw [List.length_append, HSG.out.2]; decide)]; rfl
    have ap : (⟨#[0, 0, 0, 4]⟩ : ByteArray) ++ bstr cs = bstr SC := by rw [hSC]; exact bstr_app [0, 0, 0, 4] cs
    have zT : (bstr cs).size = 2176 := by rw [bstr_size, HSG.out.2]
    have j4 : (4 : Int) ≤ n := by have := HN.out; omega
    clear hSC hk4 hks
    go_enter Try.func6, Try.ntmps6
    go_wp2_with fail
    refine (awake4 _).mono ?_
    rintro e w0 ⟨rfl, t0⟩
    have PT := Lib.hid (PT.out.pure t0)
    clear t0
    go_wp2_with fail
    refine (HF1.out _).mono ?_
    rintro e w1 ⟨rfl, t1⟩
    have PT := Lib.hid (PT.out.pure t1)
    clear t1
    go_wp2_with fail
    refine (HF2.out _).mono ?_
    rintro e w2 ⟨rfl, t2⟩
    have PT := Lib.hid (PT.out.pure t2)
    clear t2
    go_wp2_with fail
    refine (HS.out _).mono ?_
    rintro e w3 ⟨rfl, t3⟩
    have PT := Lib.hid (PT.out.pure t3)
    clear t3
    go_wp2_with fail
    refine (Num9_any _ 0).mono ?_
    rintro e wn ⟨rfl, rfl⟩
    go_wp2_with fail
    refine (HC.out _).mono ?_
    rintro e w5 ⟨rfl, t5⟩
    have PT := Lib.hid (PT.out.pure t5)
    clear t5
    go_wp2_with (refine wpList_allocZ rfl 23 rfl X HZ.out ?_)
    intro g12 x6 e6 c6 v6 s6
    have lg12 : w.heap.size ≤ g12 := by have := PT.out.size; omega
    clear e6
    go_wp2_with (refine wpList_store_blk rfl 23 _ _ rfl g12 _ (u8s ZH) _ rfl rfl c6 (size28 hXl h32) (info28_l h32) (u8s_one _) ?_)
    intro y6 d6 u6 _
    have PT := Lib.hid ((PT.out.pure v6).trans u6 fun q hq e => by omega : Pure w y6); have D12 := Lib.hid d6
    clear c6 v6 s6 d6 u6
    go_wp2_with fail
    refine (HPU.out _).mono ?_
    rintro e w7 ⟨rfl, t7⟩
    have PT := Lib.hid (PT.out.pure t7)
    have D12 := Lib.hid (t7.obj D12.out (fun e => e))
    clear t7
    go_wp2_with (refine wpList_allocZ rfl 23 rfl X HZ.out ?_)
    intro g14 x8 e8 c8 v8 s8
    have lg14 : w.heap.size ≤ g14 := by have := PT.out.size; omega
    have m12g14 : g12 < g14 := by have := (Array.getElem?_eq_some_iff.1 D12.out).1; omega
    clear e8
    go_wp2_with (refine wpList_store_blk rfl 23 _ _ rfl g14 _ (u8s P) _ rfl rfl c8 (size28 hXl hPl) (info28_l hPl) (u8s_one _) ?_)
    intro y8 d8 u8 _
    have PT := Lib.hid ((PT.out.pure v8).trans u8 fun q hq e => by omega : Pure w y8); have D14 := Lib.hid d8; have D12 := Lib.hid (u8.obj (v8.obj D12.out (fun e => e)) (by omega))
    clear c8 v8 s8 d8 u8
    go_wp2_with fail
    refine (HF1.out _).mono ?_
    rintro e w9 ⟨rfl, t9⟩
    have PT := Lib.hid (PT.out.pure t9)
    have D12 := Lib.hid (t9.obj D12.out (fun e => e))
    have D14 := Lib.hid (t9.obj D14.out (fun e => e))
    clear t9
    go_wp2_with fail
    refine (HF3.out _).mono ?_
    rintro e wa ⟨rfl, ta⟩
    have PT := Lib.hid (PT.out.pure ta)
    have D12 := Lib.hid (ta.obj D12.out (fun e => e))
    have D14 := Lib.hid (ta.obj D14.out (fun e => e))
    clear ta
    go_wp2_with fail
    refine (HPK.out _).mono ?_
    rintro e wb ⟨rfl, tb⟩
    have PT := Lib.hid (PT.out.pure tb)
    have D12 := Lib.hid (tb.obj D12.out (fun e => e))
    have D14 := Lib.hid (tb.obj D14.out (fun e => e))
    clear tb
    go_wp2_with (refine wpList_allocZ rfl 23 rfl X HZ.out ?_)
    intro g17 xc ec cc vc sc
    have lg17 : w.heap.size ≤ g17 := by have := PT.out.size; omega
    have m12g17 : g12 < g17 := by have := (Array.getElem?_eq_some_iff.1 D12.out).1; omega
    have m14g17 : g14 < g17 := by have := (Array.getElem?_eq_some_iff.1 D14.out).1; omega
    clear ec
    go_wp2_with (refine wpList_store_blk rfl 23 _ _ rfl g17 _ (u8s ZH) _ rfl rfl cc (size28 hXl h32) (info28_l h32) (u8s_one _) ?_)
    intro yc dc uc _
    have PT := Lib.hid ((PT.out.pure vc).trans uc fun q hq e => by omega : Pure w yc); have D17 := Lib.hid dc; have D12 := Lib.hid (uc.obj (vc.obj D12.out (fun e => e)) (by omega)); have D14 := Lib.hid (uc.obj (vc.obj D14.out (fun e => e)) (by omega))
    clear cc vc sc dc uc
    clear HC HPU HPK HF1 HF3 D12 D14 D17
    go_wp2_with fail
    refine (Num9_any _ 400).mono ?_
    rintro e wn ⟨rfl, rfl⟩
    go_wp2_with fail
    refine (Num9_any _ 0).mono ?_
    rintro e wn ⟨rfl, rfl⟩
    go_wp2_with fail
    refine (Num9_any _ 400).mono ?_
    rintro e wn ⟨rfl, rfl⟩
    go_wp2
    go_ret
    exact ⟨rfl, PT.out⟩
  · have hr : (IntKind.u64.wrap wh).tmod 8 = 7 := hrem
    clear hrem hc8
    obtain ⟨SC, hSC⟩ : ∃ SC, SC = [0, 0, 1, 3] ++ cs := ⟨_, rfl⟩
    have lC : SC.length = 2180 := by rw [hSC, List.length_append, HSG.out.2]; rfl
    have hk4 : k4V SC = 259 := by
      rw [hSC]
      show bits .or .i64 (bits .or .i64 (bits .or .i64 ((0 : Int) * 16777216) ((0 : Int) * 65536)) ((1 : Int) * 256)) (3 : Int) = 259
      decide
    have hks : (kindSV SC).2 = false := by
      rw [kindSV, if_neg (by omega), hk4, lC]
      decide
    have hc := fun W => Candidate_bad W FI [109] SC 7 (by omega) (by omega) (fun h => by rw [hks] at h; exact absurd h.1 (by decide))
    rw [← HZH.out] at hc
    have hpu := HP3.out
    have HC := Lib.hid hc; have HPU := Lib.hid hpu
    clear hc hpu hSGl
    have ex : (bstr SG).extract 4 n = bstr cs := by
      rw [bstr_ext, HN.out, HSG.out.1]
      rw [List.take_of_length_le (by rw [List.length_append, HSG.out.2]; decide)]; rfl
    have ap : (⟨#[0, 0, 1, 3]⟩ : ByteArray) ++ bstr cs = bstr SC := by rw [hSC]; exact bstr_app [0, 0, 1, 3] cs
    have zT : (bstr cs).size = 2176 := by rw [bstr_size, HSG.out.2]
    have j4 : (4 : Int) ≤ n := by have := HN.out; omega
    clear hSC hk4 hks
    go_enter Try.func6, Try.ntmps6
    go_wp2_with fail
    refine (awake4 _).mono ?_
    rintro e w0 ⟨rfl, t0⟩
    have PT := Lib.hid (PT.out.pure t0)
    clear t0
    go_wp2_with fail
    refine (HF1.out _).mono ?_
    rintro e w1 ⟨rfl, t1⟩
    have PT := Lib.hid (PT.out.pure t1)
    clear t1
    go_wp2_with fail
    refine (HF2.out _).mono ?_
    rintro e w2 ⟨rfl, t2⟩
    have PT := Lib.hid (PT.out.pure t2)
    clear t2
    go_wp2_with fail
    refine (HS.out _).mono ?_
    rintro e w3 ⟨rfl, t3⟩
    have PT := Lib.hid (PT.out.pure t3)
    clear t3
    go_wp2_with fail
    refine (Num9_any _ 0).mono ?_
    rintro e wn ⟨rfl, rfl⟩
    go_wp2_with fail
    refine (HC.out _).mono ?_
    rintro e w5 ⟨rfl, t5⟩
    have PT := Lib.hid (PT.out.pure t5)
    clear t5
    go_wp2_with (refine wpList_allocZ rfl 23 rfl X HZ.out ?_)
    intro g12 x6 e6 c6 v6 s6
    have lg12 : w.heap.size ≤ g12 := by have := PT.out.size; omega
    clear e6
    go_wp2_with (refine wpList_store_blk rfl 23 _ _ rfl g12 _ (u8s ZH) _ rfl rfl c6 (size28 hXl h32) (info28_l h32) (u8s_one _) ?_)
    intro y6 d6 u6 _
    have PT := Lib.hid ((PT.out.pure v6).trans u6 fun q hq e => by omega : Pure w y6); have D12 := Lib.hid d6
    clear c6 v6 s6 d6 u6
    go_wp2_with fail
    refine (HPU.out _).mono ?_
    rintro e w7 ⟨rfl, t7⟩
    have PT := Lib.hid (PT.out.pure t7)
    have D12 := Lib.hid (t7.obj D12.out (fun e => e))
    clear t7
    go_wp2_with (refine wpList_allocZ rfl 23 rfl X HZ.out ?_)
    intro g14 x8 e8 c8 v8 s8
    have lg14 : w.heap.size ≤ g14 := by have := PT.out.size; omega
    have m12g14 : g12 < g14 := by have := (Array.getElem?_eq_some_iff.1 D12.out).1; omega
    clear e8
    go_wp2_with (refine wpList_store_blk rfl 23 _ _ rfl g14 _ (u8s P) _ rfl rfl c8 (size28 hXl hPl) (info28_l hPl) (u8s_one _) ?_)
    intro y8 d8 u8 _
    have PT := Lib.hid ((PT.out.pure v8).trans u8 fun q hq e => by omega : Pure w y8); have D14 := Lib.hid d8; have D12 := Lib.hid (u8.obj (v8.obj D12.out (fun e => e)) (by omega))
    clear c8 v8 s8 d8 u8
    go_wp2_with fail
    refine (HF1.out _).mono ?_
    rintro e w9 ⟨rfl, t9⟩
    have PT := Lib.hid (PT.out.pure t9)
    have D12 := Lib.hid (t9.obj D12.out (fun e => e))
    have D14 := Lib.hid (t9.obj D14.out (fun e => e))
    clear t9
    go_wp2_with fail
    refine (HF3.out _).mono ?_
    rintro e wa ⟨rfl, ta⟩
    have PT := Lib.hid (PT.out.pure ta)
    have D12 := Lib.hid (ta.obj D12.out (fun e => e))
    have D14 := Lib.hid (ta.obj D14.out (fun e => e))
    clear ta
    go_wp2_with fail
    refine (HPK.out _).mono ?_
    rintro e wb ⟨rfl, tb⟩
    have PT := Lib.hid (PT.out.pure tb)
    have D12 := Lib.hid (tb.obj D12.out (fun e => e))
    have D14 := Lib.hid (tb.obj D14.out (fun e => e))
    clear tb
    go_wp2_with (refine wpList_allocZ rfl 23 rfl X HZ.out ?_)
    intro g17 xc ec cc vc sc
    have lg17 : w.heap.size ≤ g17 := by have := PT.out.size; omega
    have m12g17 : g12 < g17 := by have := (Array.getElem?_eq_some_iff.1 D12.out).1; omega
    have m14g17 : g14 < g17 := by have := (Array.getElem?_eq_some_iff.1 D14.out).1; omega
    clear ec
    go_wp2_with (refine wpList_store_blk rfl 23 _ _ rfl g17 _ (u8s ZH) _ rfl rfl cc (size28 hXl h32) (info28_l h32) (u8s_one _) ?_)
    intro yc dc uc _
    have PT := Lib.hid ((PT.out.pure vc).trans uc fun q hq e => by omega : Pure w yc); have D17 := Lib.hid dc; have D12 := Lib.hid (uc.obj (vc.obj D12.out (fun e => e)) (by omega)); have D14 := Lib.hid (uc.obj (vc.obj D14.out (fun e => e)) (by omega))
    clear cc vc sc dc uc
    clear HC HPU HPK HF1 HF3 D12 D14 D17
    go_wp2_with fail
    refine (Num9_any _ 400).mono ?_
    rintro e wn ⟨rfl, rfl⟩
    go_wp2_with fail
    refine (Num9_any _ 0).mono ?_
    rintro e wn ⟨rfl, rfl⟩
    go_wp2_with fail
    refine (Num9_any _ 400).mono ?_
    rintro e wn ⟨rfl, rfl⟩
    go_wp2
    go_ret
    exact ⟨rfl, PT.out⟩

set_option maxRecDepth 100000 in
set_option maxHeartbeats 4000000 in
theorem OtsShared_any (seed a b : List UInt8) (hsd : seed.length ≤ 140737488351232) (w : World) : Calls Try.prog 7 #[.string (bstr seed), .string (bstr a), .string (bstr b)] w fun e w' => e = .returned (.bool true) ∧ Pure w w' := by
  have hf1 := fun W => filled_any W [120] 16 (by decide) (by decide)
  have hf2 := fun W => filled_any W seed 32 (by decide) (by omega)
  have l1 := filledV_length [120] 16
  have l2 := filledV_length seed 32
  generalize filledV [120] 16 = FI at hf1 l1
  generalize filledV seed 32 = FS at hf2 l2
  have HF1 := Lib.hid hf1; have HF2 := Lib.hid hf2
  clear hf1 hf2
  have za := bstr_size a
  have zb := bstr_size b
  have PT := Lib.hid (Turn.refl (fun _ => False) w)
  by_cases ha : a.length ≤ 65536
  · have hA := fun W => Sign_3 W FI FS a 1 l1 (by decide) l2 ha
    have qa1 : decide (65536 < (a.length : Int)) = false := decide_eq_false (by omega)
    have qa2 : decide (65536 < a.length) = false := decide_eq_false (by omega)
    by_cases hb : b.length ≤ 65536
    · have hB := fun W => Sign_3 W FI FS b 1 l1 (by decide) l2 hb
      have qb1 : decide (65536 < (b.length : Int)) = false := decide_eq_false (by omega)
      have qb2 : decide (65536 < b.length) = false := decide_eq_false (by omega)
      have ka := otsSignV_kind3 (placeV FI 1) FS a
      have kb := otsSignV_kind3 (placeV FI 1) FS b
      have pa : ∃ r, otsSignV 3 4 67 4 (placeV FI 1) FS a = [0, 0, 0, 3] ++ otsCV (placeV FI 1) FS ++ r := ⟨_, rfl⟩
      have pb : ∃ r, otsSignV 3 4 67 4 (placeV FI 1) FS b = [0, 0, 0, 3] ++ otsCV (placeV FI 1) FS ++ r := ⟨_, rfl⟩
      have hcl : (otsCV (placeV FI 1) FS).length = 32 := shaV_length _
      have hab : a = b → otsSignV 3 4 67 4 (placeV FI 1) FS a = otsSignV 3 4 67 4 (placeV FI 1) FS b := fun e => by rw [e]
      generalize otsSignV 3 4 67 4 (placeV FI 1) FS a = S at hA ka pa hab
      generalize otsSignV 3 4 67 4 (placeV FI 1) FS b = T at hB kb pb hab
      generalize otsCV (placeV FI 1) FS = C at pa pb hcl
      obtain ⟨n, hn⟩ : ∃ n, n = 2180 := ⟨_, rfl⟩
      have zS : (bstr S).size = n := by rw [bstr_size, ka.2, hn]
      have zT : (bstr T).size = n := by rw [bstr_size, kb.2, hn]
      obtain ⟨PR, hPR⟩ : ∃ PR, PR = [0, 0, 0, 3] ++ C := ⟨_, rfl⟩
      have hPRl : PR.length = 36 := by rw [hPR, List.length_append, hcl]; rfl
      have e1 : (bstr S).extract 0 36 = bstr PR := by
        obtain ⟨r, hr⟩ := pa
        rw [bstr_ext, hr, ← hPR, List.take_append_of_le_length (by omega), List.take_of_length_le (by omega)]; rfl
      have e2 : (bstr T).extract 0 36 = bstr PR := by
        obtain ⟨r, hr⟩ := pb
        rw [bstr_ext, hr, ← hPR, List.take_append_of_le_length (by omega), List.take_of_length_le (by omega)]; rfl
      have e3 : (bstr S).extract 0 4 = ⟨#[0, 0, 0, 3]⟩ := by
        obtain ⟨r, hr⟩ := pa
        rw [bstr_ext, hr]; rfl
      have j1 : (36 : Int) ≤ n := by omega
      have j2 : (4 : Int) ≤ n := by omega
      have HA := Lib.hid hA; have HB := Lib.hid hB
      clear hA hB ka kb pa pb hcl hn hPR hPRl
      by_cases hE : a = b
      · have hE2 := hab hE
        subst hE
        subst hE2
        clear hab
        go_enter Try.func7, Try.ntmps7
        go_wp2_with fail
        refine (awake4 _).mono ?_
        rintro e w0 ⟨rfl, t0⟩
        have PT := Lib.hid (PT.out.pure t0)
        clear t0
        go_wp2_with fail
        refine (HF1.out _).mono ?_
        rintro e w1 ⟨rfl, t1⟩
        have PT := Lib.hid (PT.out.pure t1)
        clear t1
        go_wp2_with fail
        refine (HF2.out _).mono ?_
        rintro e w2 ⟨rfl, t2⟩
        have PT := Lib.hid (PT.out.pure t2)
        clear t2
        go_wp2_with fail
        refine (HA.out _).mono ?_
        rintro e w3 ⟨rfl, t3⟩
        have PT := Lib.hid (PT.out.pure t3)
        clear t3
        go_wp2_with fail
        refine (HB.out _).mono ?_
        rintro e w4 ⟨rfl, t4⟩
        have PT := Lib.hid (PT.out.pure t4)
        clear t4
        go_wp2_with fail
        refine (Num9_any _ 0).mono ?_
        rintro e wn ⟨rfl, rfl⟩
        go_wp2_with fail
        refine (Num9_any _ 0).mono ?_
        rintro e wn ⟨rfl, rfl⟩
        go_wp2_with fail
        refine wp_region_held_drew (S := fun _ => True) (by kernel_rfl) trivial (fun _ => ?_)
        have PT := Lib.hid PT.out.drew
        generalize wn.drew = wz at *
        refine wpAnyH_take (i := 0) (v := ?_) rfl (by kernel_rfl) (by kernel_rfl) (by kernel_rfl) (fun _ _ _ h => h) (Or.inl ⟨by rfl, fun w hSw => ?_⟩) trivial ?_
        rotate_left
        · first | (go_simp; done) | (go_simp; with_reducible rfl)
        simp only [List.getElem_toArray, List.getElem_cons_zero, Act.put, List.setIfInBounds_toArray, List.set_cons_zero, List.set_cons_succ]
        refine wpAnyH_take (i := 1) (v := ?_) rfl (by kernel_rfl) (by kernel_rfl) (by kernel_rfl) (fun _ _ _ h => h) (Or.inl ⟨by rfl, fun w hSw => ?_⟩) trivial ?_
        rotate_left
        · first | (go_simp; done) | (go_simp; with_reducible rfl)
        simp only [List.getElem_toArray, List.getElem_cons_succ, List.getElem_cons_zero, Act.put, List.setIfInBounds_toArray, List.set_cons_zero, List.set_cons_succ]
        refine wpAnyH_take (i := 2) (v := ?_) rfl (by kernel_rfl) (by kernel_rfl) (by kernel_rfl) (fun _ _ _ h => h) (Or.inl ⟨by rfl, fun w hSw => ?_⟩) trivial ?_
        rotate_left
        · first | (go_simp; done) | (go_simp; with_reducible rfl)
        simp only [List.getElem_toArray, List.getElem_cons_succ, List.getElem_cons_zero, Act.put, List.setIfInBounds_toArray, List.set_cons_zero, List.set_cons_succ]
        refine wpAnyH_take (i := 3) (v := ?_) rfl (by kernel_rfl) (by kernel_rfl) (by kernel_rfl) (fun _ _ _ h => h) (Or.inl ⟨by rfl, fun w hSw => ?_⟩) trivial ?_
        rotate_left
        · first | (go_simp; done) | (go_simp; with_reducible rfl)
        simp only [List.getElem_toArray, List.getElem_cons_succ, List.getElem_cons_zero, Act.put, List.setIfInBounds_toArray, List.set_cons_zero, List.set_cons_succ]
        refine wpAnyH_take (i := 4) (v := ?_) rfl (by kernel_rfl) (by kernel_rfl) (by kernel_rfl) (fun _ _ _ h => h) (Or.inl ⟨by rfl, fun w hSw => ?_⟩) trivial ?_
        rotate_left
        · first | (go_simp; done) | (go_simp; with_reducible rfl)
        simp only [List.getElem_toArray, List.getElem_cons_succ, List.getElem_cons_zero, Act.put, List.setIfInBounds_toArray, List.set_cons_zero, List.set_cons_succ]
        refine wpAnyH_take (i := 5) (v := ?_) rfl (by kernel_rfl) (by kernel_rfl) (by kernel_rfl) (fun _ _ _ h => h) (Or.inl ⟨by rfl, fun w hSw => ?_⟩) trivial ?_
        rotate_left
        · first | (go_simp; done) | (go_simp; with_reducible rfl)
        simp only [List.getElem_toArray, List.getElem_cons_succ, List.getElem_cons_zero, Act.put, List.setIfInBounds_toArray, List.set_cons_zero, List.set_cons_succ]
        refine wpAnyH_take (i := 6) (v := ?_) rfl (by kernel_rfl) (by kernel_rfl) (by kernel_rfl) (fun _ _ _ h => h) (Or.inl ⟨by rfl, fun w hSw => ?_⟩) trivial ?_
        rotate_left
        · first | (go_simp; done) | (go_simp; with_reducible rfl)
        simp only [List.getElem_toArray, List.getElem_cons_succ, List.getElem_cons_zero, Act.put, List.setIfInBounds_toArray, List.set_cons_zero, List.set_cons_succ]
        refine wpAnyH_take (i := 7) (v := ?_) rfl (by kernel_rfl) (by kernel_rfl) (by kernel_rfl) (fun _ _ _ h => h) (Or.inl ⟨by rfl, fun w hSw => ?_⟩) trivial ?_
        rotate_left
        · first | (go_simp; done) | (go_simp; with_reducible rfl)
        simp only [List.getElem_toArray, List.getElem_cons_succ, List.getElem_cons_zero, Act.put, List.setIfInBounds_toArray, List.set_cons_zero, List.set_cons_succ]
        refine wpAnyH_take (i := 8) (v := ?_) rfl (by kernel_rfl) (by kernel_rfl) (by kernel_rfl) (fun _ _ _ h => h) (Or.inl ⟨by rfl, fun w hSw => ?_⟩) trivial ?_
        rotate_left
        · first | (go_simp; done) | (go_simp; with_reducible rfl)
        simp only [List.getElem_toArray, List.getElem_cons_succ, List.getElem_cons_zero, Act.put, List.setIfInBounds_toArray, List.set_cons_zero, List.set_cons_succ]
        refine wpAnyH_take (i := 9) (v := ?_) rfl (by kernel_rfl) (by kernel_rfl) (by kernel_rfl) (fun _ _ _ h => h) (Or.inl ⟨by rfl, fun w hSw => ?_⟩) trivial ?_
        rotate_left
        · first | (go_simp; done) | (go_simp; with_reducible rfl)
        simp only [List.getElem_toArray, List.getElem_cons_succ, List.getElem_cons_zero, Act.put, List.setIfInBounds_toArray, List.set_cons_zero, List.set_cons_succ]
        refine wpAnyH_take (i := 10) (v := ?_) rfl (by kernel_rfl) (by kernel_rfl) (by kernel_rfl) (fun _ _ _ h => h) (Or.inl ⟨by rfl, fun w hSw => ?_⟩) trivial ?_
        rotate_left
        · first | (go_simp; done) | (go_simp; with_reducible rfl)
        simp only [List.getElem_toArray, List.getElem_cons_succ, List.getElem_cons_zero, Act.put, List.setIfInBounds_toArray, List.set_cons_zero, List.set_cons_succ]
        refine wpAnyH_take (i := 11) (v := ?_) rfl (by kernel_rfl) (by kernel_rfl) (by kernel_rfl) (fun _ _ _ h => h) (Or.inl ⟨by rfl, fun w hSw => ?_⟩) trivial ?_
        rotate_left
        · first | (go_simp; done) | (go_simp; with_reducible rfl)
        simp only [List.getElem_toArray, List.getElem_cons_succ, List.getElem_cons_zero, Act.put, List.setIfInBounds_toArray, List.set_cons_zero, List.set_cons_succ]
        refine wpAnyH_take (i := 12) (v := ?_) rfl (by kernel_rfl) (by kernel_rfl) (by kernel_rfl) (fun _ _ _ h => h) (Or.inl ⟨by rfl, fun w hSw => ?_⟩) trivial ?_
        rotate_left
        · first | (go_simp; done) | (go_simp; with_reducible rfl)
        simp only [List.getElem_toArray, List.getElem_cons_succ, List.getElem_cons_zero, Act.put, List.setIfInBounds_toArray, List.set_cons_zero, List.set_cons_succ]
        refine wpAnyH_take (i := 13) (v := ?_) rfl (by kernel_rfl) (by kernel_rfl) (by kernel_rfl) (fun _ _ _ h => h) (Or.inl ⟨by rfl, fun w hSw => ?_⟩) trivial ?_
        rotate_left
        · first | (go_simp; done) | (go_simp; with_reducible rfl)
        simp only [List.getElem_toArray, List.getElem_cons_succ, List.getElem_cons_zero, Act.put, List.setIfInBounds_toArray, List.set_cons_zero, List.set_cons_succ]
        refine wpAnyH_take (i := 14) (v := ?_) rfl (by kernel_rfl) (by kernel_rfl) (by kernel_rfl) (fun _ _ _ h => h) (Or.inl ⟨by rfl, fun w hSw => ?_⟩) trivial ?_
        rotate_left
        · first | (go_simp; done) | (go_simp; with_reducible rfl)
        simp only [List.getElem_toArray, List.getElem_cons_succ, List.getElem_cons_zero, Act.put, List.setIfInBounds_toArray, List.set_cons_zero, List.set_cons_succ]
        refine wpAnyH_take (i := 15) (v := ?_) rfl (by kernel_rfl) (by kernel_rfl) (by kernel_rfl) (fun _ _ _ h => h) (Or.inl ⟨by rfl, fun w hSw => ?_⟩) trivial ?_
        rotate_left
        · first | (go_simp; done) | (go_simp; with_reducible rfl)
        simp only [List.getElem_toArray, List.getElem_cons_succ, List.getElem_cons_zero, Act.put, List.setIfInBounds_toArray, List.set_cons_zero, List.set_cons_succ]
        refine wpAnyH_take (i := 16) (v := ?_) rfl (by kernel_rfl) (by kernel_rfl) (by kernel_rfl) (fun _ _ _ h => h) (Or.inl ⟨by rfl, fun w hSw => ?_⟩) trivial ?_
        rotate_left
        · first | (go_simp; done) | (go_simp; with_reducible rfl)
        simp only [List.getElem_toArray, List.getElem_cons_succ, List.getElem_cons_zero, Act.put, List.setIfInBounds_toArray, List.set_cons_zero, List.set_cons_succ]
        refine wpAnyH_take (i := 17) (v := ?_) rfl (by kernel_rfl) (by kernel_rfl) (by kernel_rfl) (fun _ _ _ h => h) (Or.inl ⟨by rfl, fun w hSw => ?_⟩) trivial ?_
        rotate_left
        · first | (go_simp; done) | (go_simp; with_reducible rfl)
        simp only [List.getElem_toArray, List.getElem_cons_succ, List.getElem_cons_zero, Act.put, List.setIfInBounds_toArray, List.set_cons_zero, List.set_cons_succ]
        refine wpAnyH_take (i := 18) (v := ?_) rfl (by kernel_rfl) (by kernel_rfl) (by kernel_rfl) (fun _ _ _ h => h) (Or.inl ⟨by rfl, fun w hSw => ?_⟩) trivial ?_
        rotate_left
        · first | (go_simp; done) | (go_simp; with_reducible rfl)
        simp only [List.getElem_toArray, List.getElem_cons_succ, List.getElem_cons_zero, Act.put, List.setIfInBounds_toArray, List.set_cons_zero, List.set_cons_succ]
        refine wpAnyH_take (i := 19) (v := ?_) rfl (by kernel_rfl) (by kernel_rfl) (by kernel_rfl) (fun _ _ _ h => h) (Or.inl ⟨by rfl, fun w hSw => ?_⟩) trivial ?_
        rotate_left
        · first | (go_simp; done) | (go_simp; with_reducible rfl)
        simp only [List.getElem_toArray, List.getElem_cons_succ, List.getElem_cons_zero, Act.put, List.setIfInBounds_toArray, List.set_cons_zero, List.set_cons_succ]
        refine wpAnyH_take (i := 20) (v := ?_) rfl (by kernel_rfl) (by kernel_rfl) (by kernel_rfl) (fun _ _ _ h => h) (Or.inl ⟨by rfl, fun w hSw => ?_⟩) trivial ?_
        rotate_left
        · first | (go_simp; done) | (go_simp; with_reducible rfl)
        simp only [List.getElem_toArray, List.getElem_cons_succ, List.getElem_cons_zero, Act.put, List.setIfInBounds_toArray, List.set_cons_zero, List.set_cons_succ]
        refine wpAnyH_take (i := 21) (v := ?_) rfl (by kernel_rfl) (by kernel_rfl) (by kernel_rfl) (fun _ _ _ h => h) (Or.inl ⟨by rfl, fun w hSw => ?_⟩) trivial ?_
        rotate_left
        · first | (go_simp; done) | (go_simp; with_reducible rfl)
        simp only [List.getElem_toArray, List.getElem_cons_succ, List.getElem_cons_zero, Act.put, List.setIfInBounds_toArray, List.set_cons_zero, List.set_cons_succ]
        refine wpAnyH_take (i := 22) (v := ?_) rfl (by kernel_rfl) (by kernel_rfl) (by kernel_rfl) (fun _ _ _ h => h) (Or.inl ⟨by rfl, fun w hSw => ?_⟩) trivial ?_
        rotate_left
        · first | (go_simp; done) | (go_simp; with_reducible rfl)
        simp only [List.getElem_toArray, List.getElem_cons_succ, List.getElem_cons_zero, Act.put, List.setIfInBounds_toArray, List.set_cons_zero, List.set_cons_succ]
        refine wpAnyH_take (i := 23) (v := ?_) rfl (by kernel_rfl) (by kernel_rfl) (by kernel_rfl) (fun _ _ _ h => h) (Or.inl ⟨by rfl, fun w hSw => ?_⟩) trivial ?_
        rotate_left
        · first | (go_simp; done) | (go_simp; with_reducible rfl)
        simp only [List.getElem_toArray, List.getElem_cons_succ, List.getElem_cons_zero, Act.put, List.setIfInBounds_toArray, List.set_cons_zero, List.set_cons_succ]
        refine wpAnyH_take (i := 24) (v := ?_) rfl (by kernel_rfl) (by kernel_rfl) (by kernel_rfl) (fun _ _ _ h => h) (Or.inl ⟨by rfl, fun w hSw => ?_⟩) trivial ?_
        rotate_left
        · first | (go_simp; done) | (go_simp; with_reducible rfl)
        simp only [List.getElem_toArray, List.getElem_cons_succ, List.getElem_cons_zero, Act.put, List.setIfInBounds_toArray, List.set_cons_zero, List.set_cons_succ]
        refine wpAnyH_take (i := 25) (v := ?_) rfl (by kernel_rfl) (by kernel_rfl) (by kernel_rfl) (fun _ _ _ h => h) (Or.inl ⟨by rfl, fun w hSw => ?_⟩) trivial ?_
        rotate_left
        · first | (go_simp; done) | (go_simp; with_reducible rfl)
        simp only [List.getElem_toArray, List.getElem_cons_succ, List.getElem_cons_zero, Act.put, List.setIfInBounds_toArray, List.set_cons_zero, List.set_cons_succ]
        refine wpAnyH_take (i := 26) (v := ?_) rfl (by kernel_rfl) (by kernel_rfl) (by kernel_rfl) (fun _ _ _ h => h) (Or.inl ⟨by rfl, fun w hSw => ?_⟩) trivial ?_
        rotate_left
        · first | (go_simp; done) | (go_simp; with_reducible rfl)
        simp only [List.getElem_toArray, List.getElem_cons_succ, List.getElem_cons_zero, Act.put, List.setIfInBounds_toArray, List.set_cons_zero, List.set_cons_succ]
        refine wpAnyH_take (i := 27) (v := ?_) rfl (by kernel_rfl) (by kernel_rfl) (by kernel_rfl) (fun _ _ _ h => h) (Or.inl ⟨by rfl, fun w hSw => ?_⟩) trivial ?_
        rotate_left
        · first | (go_simp; done) | (go_simp; with_reducible rfl)
        simp only [List.getElem_toArray, List.getElem_cons_succ, List.getElem_cons_zero, Act.put, List.setIfInBounds_toArray, List.set_cons_zero, List.set_cons_succ]
        refine wpAnyH_done (by kernel_rfl) ?_ _
        go_wp2
        go_ret
        exact ⟨rfl, PT.out⟩
      · skip
        have hE3 : (a == b) = false := beq_eq_false_iff_ne.2 hE
        clear hab
        go_enter Try.func7, Try.ntmps7
        go_wp2_with fail
        refine (awake4 _).mono ?_
        rintro e w0 ⟨rfl, t0⟩
        have PT := Lib.hid (PT.out.pure t0)
        clear t0
        go_wp2_with fail
        refine (HF1.out _).mono ?_
        rintro e w1 ⟨rfl, t1⟩
        have PT := Lib.hid (PT.out.pure t1)
        clear t1
        go_wp2_with fail
        refine (HF2.out _).mono ?_
        rintro e w2 ⟨rfl, t2⟩
        have PT := Lib.hid (PT.out.pure t2)
        clear t2
        go_wp2_with fail
        refine (HA.out _).mono ?_
        rintro e w3 ⟨rfl, t3⟩
        have PT := Lib.hid (PT.out.pure t3)
        clear t3
        go_wp2_with fail
        refine (HB.out _).mono ?_
        rintro e w4 ⟨rfl, t4⟩
        have PT := Lib.hid (PT.out.pure t4)
        clear t4
        go_wp2_with fail
        refine (Num9_any _ 0).mono ?_
        rintro e wn ⟨rfl, rfl⟩
        go_wp2_with fail
        refine (Num9_any _ 0).mono ?_
        rintro e wn ⟨rfl, rfl⟩
        go_wp2_with fail
        refine wp_region_held_drew (S := fun _ => True) (by kernel_rfl) trivial (fun _ => ?_)
        have PT := Lib.hid PT.out.drew
        generalize wn.drew = wz at *
        refine wpAnyH_take (i := 0) (v := ?_) rfl (by kernel_rfl) (by kernel_rfl) (by kernel_rfl) (fun _ _ _ h => h) (Or.inl ⟨by rfl, fun w hSw => ?_⟩) trivial ?_
        rotate_left
        · first | (go_simp; done) | (go_simp; with_reducible rfl)
        simp only [List.getElem_toArray, List.getElem_cons_zero, Act.put, List.setIfInBounds_toArray, List.set_cons_zero, List.set_cons_succ]
        refine wpAnyH_take (i := 1) (v := ?_) rfl (by kernel_rfl) (by kernel_rfl) (by kernel_rfl) (fun _ _ _ h => h) (Or.inl ⟨by rfl, fun w hSw => ?_⟩) trivial ?_
        rotate_left
        · first | (go_simp; done) | (go_simp; with_reducible rfl)
        simp only [List.getElem_toArray, List.getElem_cons_succ, List.getElem_cons_zero, Act.put, List.setIfInBounds_toArray, List.set_cons_zero, List.set_cons_succ]
        refine wpAnyH_take (i := 2) (v := ?_) rfl (by kernel_rfl) (by kernel_rfl) (by kernel_rfl) (fun _ _ _ h => h) (Or.inl ⟨by rfl, fun w hSw => ?_⟩) trivial ?_
        rotate_left
        · first | (go_simp; done) | (go_simp; with_reducible rfl)
        simp only [List.getElem_toArray, List.getElem_cons_succ, List.getElem_cons_zero, Act.put, List.setIfInBounds_toArray, List.set_cons_zero, List.set_cons_succ]
        refine wpAnyH_take (i := 3) (v := ?_) rfl (by kernel_rfl) (by kernel_rfl) (by kernel_rfl) (fun _ _ _ h => h) (Or.inl ⟨by rfl, fun w hSw => ?_⟩) trivial ?_
        rotate_left
        · first | (go_simp; done) | (go_simp; with_reducible rfl)
        simp only [List.getElem_toArray, List.getElem_cons_succ, List.getElem_cons_zero, Act.put, List.setIfInBounds_toArray, List.set_cons_zero, List.set_cons_succ]
        refine wpAnyH_take (i := 4) (v := ?_) rfl (by kernel_rfl) (by kernel_rfl) (by kernel_rfl) (fun _ _ _ h => h) (Or.inl ⟨by rfl, fun w hSw => ?_⟩) trivial ?_
        rotate_left
        · first | (go_simp; done) | (go_simp; with_reducible rfl)
        simp only [List.getElem_toArray, List.getElem_cons_succ, List.getElem_cons_zero, Act.put, List.setIfInBounds_toArray, List.set_cons_zero, List.set_cons_succ]
        refine wpAnyH_take (i := 5) (v := ?_) rfl (by kernel_rfl) (by kernel_rfl) (by kernel_rfl) (fun _ _ _ h => h) (Or.inl ⟨by rfl, fun w hSw => ?_⟩) trivial ?_
        rotate_left
        · first | (go_simp; done) | (go_simp; with_reducible rfl)
        simp only [List.getElem_toArray, List.getElem_cons_succ, List.getElem_cons_zero, Act.put, List.setIfInBounds_toArray, List.set_cons_zero, List.set_cons_succ]
        refine wpAnyH_take (i := 6) (v := ?_) rfl (by kernel_rfl) (by kernel_rfl) (by kernel_rfl) (fun _ _ _ h => h) (Or.inl ⟨by rfl, fun w hSw => ?_⟩) trivial ?_
        rotate_left
        · first | (go_simp; done) | (go_simp; with_reducible rfl)
        simp only [List.getElem_toArray, List.getElem_cons_succ, List.getElem_cons_zero, Act.put, List.setIfInBounds_toArray, List.set_cons_zero, List.set_cons_succ]
        refine wpAnyH_take (i := 7) (v := ?_) rfl (by kernel_rfl) (by kernel_rfl) (by kernel_rfl) (fun _ _ _ h => h) (Or.inl ⟨by rfl, fun w hSw => ?_⟩) trivial ?_
        rotate_left
        · first | (go_simp; done) | (go_simp; with_reducible rfl)
        simp only [List.getElem_toArray, List.getElem_cons_succ, List.getElem_cons_zero, Act.put, List.setIfInBounds_toArray, List.set_cons_zero, List.set_cons_succ]
        refine wpAnyH_take (i := 8) (v := ?_) rfl (by kernel_rfl) (by kernel_rfl) (by kernel_rfl) (fun _ _ _ h => h) (Or.inl ⟨by rfl, fun w hSw => ?_⟩) trivial ?_
        rotate_left
        · first | (go_simp; done) | (go_simp; with_reducible rfl)
        simp only [List.getElem_toArray, List.getElem_cons_succ, List.getElem_cons_zero, Act.put, List.setIfInBounds_toArray, List.set_cons_zero, List.set_cons_succ]
        refine wpAnyH_take (i := 9) (v := ?_) rfl (by kernel_rfl) (by kernel_rfl) (by kernel_rfl) (fun _ _ _ h => h) (Or.inl ⟨by rfl, fun w hSw => ?_⟩) trivial ?_
        rotate_left
        · first | (go_simp; done) | (go_simp; with_reducible rfl)
        simp only [List.getElem_toArray, List.getElem_cons_succ, List.getElem_cons_zero, Act.put, List.setIfInBounds_toArray, List.set_cons_zero, List.set_cons_succ]
        refine wpAnyH_take (i := 10) (v := ?_) rfl (by kernel_rfl) (by kernel_rfl) (by kernel_rfl) (fun _ _ _ h => h) (Or.inl ⟨by rfl, fun w hSw => ?_⟩) trivial ?_
        rotate_left
        · first | (go_simp; done) | (go_simp; with_reducible rfl)
        simp only [List.getElem_toArray, List.getElem_cons_succ, List.getElem_cons_zero, Act.put, List.setIfInBounds_toArray, List.set_cons_zero, List.set_cons_succ]
        refine wpAnyH_take (i := 11) (v := ?_) rfl (by kernel_rfl) (by kernel_rfl) (by kernel_rfl) (fun _ _ _ h => h) (Or.inl ⟨by rfl, fun w hSw => ?_⟩) trivial ?_
        rotate_left
        · first | (go_simp; done) | (go_simp; with_reducible rfl)
        simp only [List.getElem_toArray, List.getElem_cons_succ, List.getElem_cons_zero, Act.put, List.setIfInBounds_toArray, List.set_cons_zero, List.set_cons_succ]
        refine wpAnyH_take (i := 12) (v := ?_) rfl (by kernel_rfl) (by kernel_rfl) (by kernel_rfl) (fun _ _ _ h => h) (Or.inl ⟨by rfl, fun w hSw => ?_⟩) trivial ?_
        rotate_left
        · first | (go_simp; done) | (go_simp; with_reducible rfl)
        simp only [List.getElem_toArray, List.getElem_cons_succ, List.getElem_cons_zero, Act.put, List.setIfInBounds_toArray, List.set_cons_zero, List.set_cons_succ]
        refine wpAnyH_take (i := 13) (v := ?_) rfl (by kernel_rfl) (by kernel_rfl) (by kernel_rfl) (fun _ _ _ h => h) (Or.inl ⟨by rfl, fun w hSw => ?_⟩) trivial ?_
        rotate_left
        · first | (go_simp; done) | (go_simp; with_reducible rfl)
        simp only [List.getElem_toArray, List.getElem_cons_succ, List.getElem_cons_zero, Act.put, List.setIfInBounds_toArray, List.set_cons_zero, List.set_cons_succ]
        refine wpAnyH_take (i := 14) (v := ?_) rfl (by kernel_rfl) (by kernel_rfl) (by kernel_rfl) (fun _ _ _ h => h) (Or.inl ⟨by rfl, fun w hSw => ?_⟩) trivial ?_
        rotate_left
        · first | (go_simp; done) | (go_simp; with_reducible rfl)
        simp only [List.getElem_toArray, List.getElem_cons_succ, List.getElem_cons_zero, Act.put, List.setIfInBounds_toArray, List.set_cons_zero, List.set_cons_succ]
        refine wpAnyH_take (i := 15) (v := ?_) rfl (by kernel_rfl) (by kernel_rfl) (by kernel_rfl) (fun _ _ _ h => h) (Or.inl ⟨by rfl, fun w hSw => ?_⟩) trivial ?_
        rotate_left
        · first | (go_simp; done) | (go_simp; with_reducible rfl)
        simp only [List.getElem_toArray, List.getElem_cons_succ, List.getElem_cons_zero, Act.put, List.setIfInBounds_toArray, List.set_cons_zero, List.set_cons_succ]
        refine wpAnyH_take (i := 16) (v := ?_) rfl (by kernel_rfl) (by kernel_rfl) (by kernel_rfl) (fun _ _ _ h => h) (Or.inl ⟨by rfl, fun w hSw => ?_⟩) trivial ?_
        rotate_left
        · first | (go_simp; done) | (go_simp; with_reducible rfl)
        simp only [List.getElem_toArray, List.getElem_cons_succ, List.getElem_cons_zero, Act.put, List.setIfInBounds_toArray, List.set_cons_zero, List.set_cons_succ]
        refine wpAnyH_take (i := 17) (v := ?_) rfl (by kernel_rfl) (by kernel_rfl) (by kernel_rfl) (fun _ _ _ h => h) (Or.inl ⟨by rfl, fun w hSw => ?_⟩) trivial ?_
        rotate_left
        · first | (go_simp; done) | (go_simp; with_reducible rfl)
        simp only [List.getElem_toArray, List.getElem_cons_succ, List.getElem_cons_zero, Act.put, List.setIfInBounds_toArray, List.set_cons_zero, List.set_cons_succ]
        refine wpAnyH_take (i := 18) (v := ?_) rfl (by kernel_rfl) (by kernel_rfl) (by kernel_rfl) (fun _ _ _ h => h) (Or.inl ⟨by rfl, fun w hSw => ?_⟩) trivial ?_
        rotate_left
        · first | (go_simp; done) | (go_simp; with_reducible rfl)
        simp only [List.getElem_toArray, List.getElem_cons_succ, List.getElem_cons_zero, Act.put, List.setIfInBounds_toArray, List.set_cons_zero, List.set_cons_succ]
        refine wpAnyH_take (i := 19) (v := ?_) rfl (by kernel_rfl) (by kernel_rfl) (by kernel_rfl) (fun _ _ _ h => h) (Or.inl ⟨by rfl, fun w hSw => ?_⟩) trivial ?_
        rotate_left
        · first | (go_simp; done) | (go_simp; with_reducible rfl)
        simp only [List.getElem_toArray, List.getElem_cons_succ, List.getElem_cons_zero, Act.put, List.setIfInBounds_toArray, List.set_cons_zero, List.set_cons_succ]
        refine wpAnyH_take (i := 20) (v := ?_) rfl (by kernel_rfl) (by kernel_rfl) (by kernel_rfl) (fun _ _ _ h => h) (Or.inl ⟨by rfl, fun w hSw => ?_⟩) trivial ?_
        rotate_left
        · first | (go_simp; done) | (go_simp; with_reducible rfl)
        simp only [List.getElem_toArray, List.getElem_cons_succ, List.getElem_cons_zero, Act.put, List.setIfInBounds_toArray, List.set_cons_zero, List.set_cons_succ]
        refine wpAnyH_take (i := 21) (v := ?_) rfl (by kernel_rfl) (by kernel_rfl) (by kernel_rfl) (fun _ _ _ h => h) (Or.inl ⟨by rfl, fun w hSw => ?_⟩) trivial ?_
        rotate_left
        · first | (go_simp; done) | (go_simp; with_reducible rfl)
        simp only [List.getElem_toArray, List.getElem_cons_succ, List.getElem_cons_zero, Act.put, List.setIfInBounds_toArray, List.set_cons_zero, List.set_cons_succ]
        refine wpAnyH_take (i := 22) (v := undef) rfl (by kernel_rfl) (by kernel_rfl) (by kernel_rfl) (fun _ _ _ h => h) (Or.inr ⟨by rfl, rfl⟩) trivial ?_
        simp only [List.getElem_toArray, List.getElem_cons_succ, List.getElem_cons_zero, Act.put, List.setIfInBounds_toArray, List.set_cons_zero, List.set_cons_succ]
        refine wpAnyH_take (i := 23) (v := undef) rfl (by kernel_rfl) (by kernel_rfl) (by kernel_rfl) (fun _ _ _ h => h) (Or.inr ⟨by rfl, rfl⟩) trivial ?_
        simp only [List.getElem_toArray, List.getElem_cons_succ, List.getElem_cons_zero, Act.put, List.setIfInBounds_toArray, List.set_cons_zero, List.set_cons_succ]
        refine wpAnyH_take (i := 24) (v := undef) rfl (by kernel_rfl) (by kernel_rfl) (by kernel_rfl) (fun _ _ _ h => h) (Or.inr ⟨by rfl, rfl⟩) trivial ?_
        simp only [List.getElem_toArray, List.getElem_cons_succ, List.getElem_cons_zero, Act.put, List.setIfInBounds_toArray, List.set_cons_zero, List.set_cons_succ]
        refine wpAnyH_take (i := 25) (v := ?_) rfl (by kernel_rfl) (by kernel_rfl) (by kernel_rfl) (fun _ _ _ h => h) (Or.inl ⟨by rfl, fun w hSw => ?_⟩) trivial ?_
        rotate_left
        · first | (go_simp; done) | (go_simp; with_reducible rfl)
        simp only [List.getElem_toArray, List.getElem_cons_succ, List.getElem_cons_zero, Act.put, List.setIfInBounds_toArray, List.set_cons_zero, List.set_cons_succ]
        refine wpAnyH_take (i := 26) (v := ?_) rfl (by kernel_rfl) (by kernel_rfl) (by kernel_rfl) (fun _ _ _ h => h) (Or.inl ⟨by rfl, fun w hSw => ?_⟩) trivial ?_
        rotate_left
        · first | (go_simp; done) | (go_simp; with_reducible rfl)
        simp only [List.getElem_toArray, List.getElem_cons_succ, List.getElem_cons_zero, Act.put, List.setIfInBounds_toArray, List.set_cons_zero, List.set_cons_succ]
        refine wpAnyH_take (i := 27) (v := ?_) rfl (by kernel_rfl) (by kernel_rfl) (by kernel_rfl) (fun _ _ _ h => h) (Or.inl ⟨by rfl, fun w hSw => ?_⟩) trivial ?_
        rotate_left
        · first | (go_simp; done) | (go_simp; with_reducible rfl)
        simp only [List.getElem_toArray, List.getElem_cons_succ, List.getElem_cons_zero, Act.put, List.setIfInBounds_toArray, List.set_cons_zero, List.set_cons_succ]
        refine wpAnyH_done (by kernel_rfl) ?_ _
        go_wp2
        go_ret
        exact ⟨rfl, PT.out⟩
    · have hB := fun W => Sign_bad W 3 FI FS b 1 (by omega) (fun h => by have := h.2.2.2; omega)
      have qb1 : decide (65536 < (b.length : Int)) = true := decide_eq_true (by omega)
      have qb2 : decide (65536 < b.length) = true := decide_eq_true (by omega)
      generalize otsSignV 3 4 67 4 (placeV FI 1) FS a = S at hA
      have HA := Lib.hid hA; have HB := Lib.hid hB
      clear hA hB ha hb
      go_enter Try.func7, Try.ntmps7
      go_wp2_with fail
      refine (awake4 _).mono ?_
      rintro e w0 ⟨rfl, t0⟩
      have PT := Lib.hid (PT.out.pure t0)
      clear t0
      go_wp2_with fail
      refine (HF1.out _).mono ?_
      rintro e w1 ⟨rfl, t1⟩
      have PT := Lib.hid (PT.out.pure t1)
      clear t1
      go_wp2_with fail
      refine (HF2.out _).mono ?_
      rintro e w2 ⟨rfl, t2⟩
      have PT := Lib.hid (PT.out.pure t2)
      clear t2
      go_wp2_with fail
      refine (HA.out _).mono ?_
      rintro e w3 ⟨rfl, t3⟩
      have PT := Lib.hid (PT.out.pure t3)
      clear t3
      go_wp2_with fail
      refine (HB.out _).mono ?_
      rintro e w4 ⟨rfl, t4⟩
      have PT := Lib.hid (PT.out.pure t4)
      clear t4
      go_wp2_with fail
      refine (Num9_any _ 0).mono ?_
      rintro e wn ⟨rfl, rfl⟩
      go_wp2_with fail
      refine (Num9_any _ 400).mono ?_
      rintro e wn ⟨rfl, rfl⟩
      go_wp2
      go_ret
      exact ⟨rfl, PT.out⟩
  · have hA := fun W => Sign_bad W 3 FI FS a 1 (by omega) (fun h => by have := h.2.2.2; omega)
    have qa1 : decide (65536 < (a.length : Int)) = true := decide_eq_true (by omega)
    have qa2 : decide (65536 < a.length) = true := decide_eq_true (by omega)
    have HA := Lib.hid hA
    clear hA
    by_cases hb : b.length ≤ 65536
    · have hB := fun W => Sign_3 W FI FS b 1 l1 (by decide) l2 hb
      generalize otsSignV 3 4 67 4 (placeV FI 1) FS b = S at hB
      have HB := Lib.hid hB
      clear hB ha hb
      go_enter Try.func7, Try.ntmps7
      go_wp2_with fail
      refine (awake4 _).mono ?_
      rintro e w0 ⟨rfl, t0⟩
      have PT := Lib.hid (PT.out.pure t0)
      clear t0
      go_wp2_with fail
      refine (HF1.out _).mono ?_
      rintro e w1 ⟨rfl, t1⟩
      have PT := Lib.hid (PT.out.pure t1)
      clear t1
      go_wp2_with fail
      refine (HF2.out _).mono ?_
      rintro e w2 ⟨rfl, t2⟩
      have PT := Lib.hid (PT.out.pure t2)
      clear t2
      go_wp2_with fail
      refine (HA.out _).mono ?_
      rintro e w3 ⟨rfl, t3⟩
      have PT := Lib.hid (PT.out.pure t3)
      clear t3
      go_wp2_with fail
      refine (HB.out _).mono ?_
      rintro e w4 ⟨rfl, t4⟩
      have PT := Lib.hid (PT.out.pure t4)
      clear t4
      go_wp2_with fail
      refine (Num9_any _ 400).mono ?_
      rintro e wn ⟨rfl, rfl⟩
      go_wp2
      go_ret
      exact ⟨rfl, PT.out⟩
    · have hB := fun W => Sign_bad W 3 FI FS b 1 (by omega) (fun h => by have := h.2.2.2; omega)
      have HB := Lib.hid hB
      clear hB ha hb
      go_enter Try.func7, Try.ntmps7
      go_wp2_with fail
      refine (awake4 _).mono ?_
      rintro e w0 ⟨rfl, t0⟩
      have PT := Lib.hid (PT.out.pure t0)
      clear t0
      go_wp2_with fail
      refine (HF1.out _).mono ?_
      rintro e w1 ⟨rfl, t1⟩
      have PT := Lib.hid (PT.out.pure t1)
      clear t1
      go_wp2_with fail
      refine (HF2.out _).mono ?_
      rintro e w2 ⟨rfl, t2⟩
      have PT := Lib.hid (PT.out.pure t2)
      clear t2
      go_wp2_with fail
      refine (HA.out _).mono ?_
      rintro e w3 ⟨rfl, t3⟩
      have PT := Lib.hid (PT.out.pure t3)
      clear t3
      go_wp2_with fail
      refine (HB.out _).mono ?_
      rintro e w4 ⟨rfl, t4⟩
      have PT := Lib.hid (PT.out.pure t4)
      clear t4
      go_wp2_with fail
      refine (Num9_any _ 400).mono ?_
      rintro e wn ⟨rfl, rfl⟩
      go_wp2
      go_ret
      exact ⟨rfl, PT.out⟩
end Go.Proofs.Ytmifchdmlbcclaa
