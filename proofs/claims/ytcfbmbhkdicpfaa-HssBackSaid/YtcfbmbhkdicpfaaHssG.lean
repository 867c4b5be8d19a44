/- Chapter 6: what was signed is taken, by each of its indices: the walk of the law HssBack. -/
import Derived.Test.YtcfbmbhkdicpfaaHssL
namespace Go.Proofs.Ytcfbmbhkdicpfaa
open Go.RowKit
set_option maxRecDepth 100000

theorem back_facts (j : Nat) (h : j < 4) : ∃ d, d = j / 2 ∧ Hid (IntKind.i64.wrap ((j : Int) + 1) = ((j + 1 : Nat) : Int) ∧ IntKind.i64.wrap (4 - (j : Int)) = 4 - (j : Int) ∧ wrap64 (4 - (j : Int)) = 4 - (j : Int) ∧ wrap64 ((j : Int) + 1) = ((j + 1 : Nat) : Int) ∧ (j : Int) / 2 = (d : Int) ∧ (j : Int).tdiv 2 = (d : Int) ∧ IntKind.i64.wrap (d : Int) = (d : Int) ∧ wrap64 (d : Int) = (d : Int)) := by
  refine ⟨j / 2, rfl, Lib.hid ⟨by rw [IntWalk.i64_in _ (by omega)]; omega, IntWalk.i64_in _ (by omega), by unfold wrap64; omega, by unfold wrap64; omega, rfl, ?_, IntWalk.i64_in _ (by omega), by unfold wrap64; omega⟩⟩
  rw [Int.tdiv_eq_ediv_of_nonneg (by omega)]
  rfl

set_option maxHeartbeats 4000000 in
theorem hssBack_walk (seed : List UInt8) (msg : List UInt8) (w : World) (hs : seed.length ≤ 140737488351232) (hm0 : msg.length ≤ 140737488351232) :
    Calls Try.prog 5 #[.string (bstr seed), .string (bstr msg)] w fun e w' => e = .returned (.bool true) ∧ Pure w w' := by
  have zm := bstr_size msg
  have PT := Lib.hid (Turn.refl (fun _ => False) w)
  by_cases hm : msg.length ≤ 65536
  case neg =>
    have q1 : (65536 : Int) < (msg.length : Int) := by omega
    clear hm hs hm0
    go_enter Try.func5, Try.ntmps5
    go_wp2_with fail
    refine (awake6 _).mono ?_
    rintro e w1 ⟨rfl, t1⟩
    have PT := Lib.hid (PT.out.pure t1)
    clear t1
    go_wp2
    go_ret
    exact ⟨rfl, PT.out⟩
  have hky := fun W => Key6_any W seed 0 hs
  rw [show keyB 0 5 = 0 from rfl] at hky
  have hpu := fun W => HPublic_any W (keyH seed 0)
  rw [keyH_pub seed (Nat.zero_le _)] at hpu
  have hsi : ∀ i, i < 4 → ∀ W, Calls Try.prog 13 #[.agg (lkC (keyH seed i)).toArray, .string (bstr msg)] W fun e w' => e = .returned (.tuple #[.string (bstr (hsignV (keyH seed i) msg).1), .agg (lkC (keyH seed (i + 1))).toArray, .int .i64 0]) ∧ Pure W w' := fun i hi W => by
    have := HSign_any W (keyH seed i) msg
    rwa [keyH_sign seed hi hm] at this
  have hsp := fun W => HSign_any W (keyH seed 4) msg
  rw [keyH_spent seed hm] at hsp
  have hpl := hpub_length (keyH_may seed (n := 0) (by decide))
  have hve : ∀ i, i < 4 → ∀ W, Calls Try.prog 19 #[.string (bstr (hpubV (keyH seed 0)).1), .string (bstr msg), .string (bstr (hsignV (keyH seed i) msg).1)] W fun e w' => e = .returned (.int .i64 0) ∧ Pure W w' := fun i hi W => by
    have hl := hsign_length (keyH seed i) msg
    have := HVerify_any W (hpubV (keyH seed 0)).1 msg (hsignV (keyH seed i) msg).1 (by omega) (by omega)
    rwa [keyH_back seed hi hm] at this
  have hle : ∀ i, i ≤ 4 → ∀ W, Calls Try.prog 16 #[.agg (lkC (keyH seed i)).toArray] W fun e w' => e = .returned (.int .i64 (4 - (i : Int))) ∧ Pure W w' := fun i hi W => by
    have := HLeft_any W (keyH seed i)
    rwa [keyH_left seed hi] at this
  have hix : ∀ i, i < 4 → 8 ≤ (hsignV (keyH seed i) msg).1.length ∧ (hsignV (keyH seed i) msg).1.length ≤ 7000 ∧ ∀ W, (Instr.index 9 (.string (bstr (hsignV (keyH seed i) msg).1)) (.int .i64 7)).run Try.prog W = .ok (.int .u8 ((i / 2 : Nat) : Int)) W := fun i hi => by
    obtain ⟨t, ht⟩ := keyH_at seed hi hm
    have hl : 8 ≤ (hsignV (keyH seed i) msg).1.length := by rw [ht, List.length_append, List.length_append, beB_length, beB_length]; omega
    refine ⟨hl, hsign_length _ _, fun W => ?_⟩
    rw [index_bstrH W _ 7 7 rfl (by omega)]
    have h7 : (hsignV (keyH seed i) msg).1.getD 7 0 = UInt8.ofNat (i / 2) := by rw [ht]; simp [beB]
    rw [h7, UInt8.toNat_ofNat', Nat.mod_eq_of_lt (by omega)]
  have hcc : ∀ (W : World) (g i : Nat), W.heap[g]? = some (.cells (lkC (keyH seed i)).toArray 23 (0, 0)) → W.cell? ⟨g, 4, none⟩ = some (.int .i64 (i : Int)) := fun W g i h => (hk_cells h).2.2.2.2
  generalize keyH seed = K at *
  generalize (hpubV (K 0)).1 = P at *
  obtain ⟨SG, hSG⟩ : ∃ SG : Nat → List UInt8, SG = fun i => (hsignV (K i) msg).1 := ⟨_, rfl⟩
  have eSG : ∀ i, (hsignV (K i) msg).1 = SG i := fun i => by rw [hSG]
  simp only [eSG] at hsi hve hix
  have HKY := Lib.hid hky; have HPU := Lib.hid hpu; have HSI := Lib.hid hsi; have HSP := Lib.hid hsp; have HVE := Lib.hid hve; have HIX := Lib.hid hix; have HCC := Lib.hid hcc; have HLE := Lib.hid hle
  have zSG : Hid (∀ i, (bstr (SG i)).size = (SG i).length) := Lib.hid fun i => bstr_size _
  have gm : ¬ ((65536 : Int) < (msg.length : Int)) := by omega
  clear hky hpu hsi hsp hve hix hcc hle eSG hSG hpl hs hm hm0
  go_enter Try.func5, Try.ntmps5
  go_wp2_with fail
  refine (awake6 _).mono ?_
  rintro e w1 ⟨rfl, t1⟩
  have PT := Lib.hid (PT.out.pure t1)
  clear t1
  go_wp2_with fail
  refine (HKY.out _).mono ?_
  rintro e w2 ⟨rfl, t2⟩
  have PT := Lib.hid (PT.out.pure t2)
  clear t2
  go_wp2_with (refine wpList_allocZ rfl 23 rfl _ zeroHKs ?_)
  intro g5 w3 e0 c0 t0 s0
  have l5 : w.heap.size ≤ g5 := by have := PT.out.size; omega
  clear e0 s0
  go_wp2_with (refine wpList_store_blk rfl 23 _ _ rfl g5 _ (lkC (K 0)) _ rfl rfl c0 rfl infoHK (lkC_one _) ?_)
  intro w4 d1 t1 s1
  clear s1
  have D5 := Lib.hid d1; have PT := Lib.hid ((PT.out.pure t0).newer t1 l5)
  clear c0 t0 d1 t1
  have R1 := range_of_row D5.out
  go_wp2_with (refine wpList_load_mid rfl 23 _ rfl g5 0 rfl (lkC (K 0)) _ R1 Try.underlying23 rfl infoHK ?_)
  clear R1
  refine (HPU.out _).mono ?_
  rintro e w5 ⟨rfl, t5⟩
  have D5 := Lib.hid (t5.obj D5.out (fun e => e))
  have PT := Lib.hid (PT.out.pure t5)
  clear t5
  go_wp2_with fail
  go_loopw [8] (fun i wr => ∃ j : Nat, j ≤ 4 ∧ i = .int .i64 (j : Int) ∧ Hid (wr.heap[g5]? = some (Obj.cells (lkC (K j)).toArray 23 (0, 0))) ∧ Hid (Pure w wr)) (fun i _ => 4 - (intOf i).toNat)
  case atStart => exact ⟨0, Nat.zero_le _, rfl, D5, PT⟩
  case round =>
    clear D5 PT
    obtain ⟨j, hj, rfl, D5, PT⟩ := hrel
    by_cases hlt : j < 4
    · have q1 : (j : Int) < 4 := by omega
      have R1 := range_of_row D5.out
      go_wp2_with (refine wpList_load_mid rfl 23 _ rfl g5 0 rfl (lkC (K j)) _ R1 Try.underlying23 rfl infoHK ?_)
      clear R1
      refine (HSI.out j hlt _).mono ?_
      rintro e w6 ⟨rfl, t6⟩
      have D5 := Lib.hid (t6.obj D5.out (fun e => e))
      have PT := Lib.hid (PT.out.pure t6)
      clear t6
      go_wp2_with (refine wpList_allocZ rfl 23 rfl _ zeroHKs ?_)
      intro g10 w7 e0 c0 t0 s0
      have l10 : w.heap.size ≤ g10 := by have := PT.out.size; omega
      have n5_10 : g5 ≠ g10 := by have := (Array.getElem?_eq_some_iff.1 D5.out).1; omega
      clear e0 s0
      go_wp2_with (refine wpList_store_blk rfl 23 _ _ rfl g10 _ (lkC (K (j + 1))) _ rfl rfl c0 rfl infoHK (lkC_one _) ?_)
      intro w8 d1 t1 s1
      clear s1
      have D5 := Lib.hid (t1.obj (t0.obj D5.out (fun e => e)) n5_10)
      have D10 := Lib.hid d1; have PT := Lib.hid ((PT.out.pure t0).newer t1 l10)
      clear c0 t0 d1 t1
      go_wp2_with fail
      refine (HVE.out j hlt _).mono ?_
      rintro e w9 ⟨rfl, t9⟩
      have D5 := Lib.hid (t9.obj D5.out (fun e => e))
      have D10 := Lib.hid (t9.obj D10.out (fun e => e))
      have PT := Lib.hid (PT.out.pure t9)
      clear t9
      have k4 := HCC.out _ _ _ D10.out
      obtain ⟨h8, h7000, hix⟩ := HIX.out j hlt
      have zs := zSG.out j
      obtain ⟨d, hd, hdd⟩ := back_facts j hlt
      obtain ⟨i4, i5, i6, i7, i8, i9, i10, i11⟩ := hdd.out
      have I4 := Lib.hid i4
      have I5 := Lib.hid (And.intro i5 (And.intro i6 (And.intro i7 (And.intro i8 (And.intro i9 (And.intro i10 i11))))))
      clear i4 i5 i6 i7 i8 i9 i10 i11 hdd
      rw [← hd] at hix
      obtain ⟨n, hn⟩ : ∃ n, n = (SG j).length := ⟨_, rfl⟩
      rw [← hn] at zs h8 h7000
      have q4 : ¬ ((n : Int) < 8) := by omega
      clear hd hn
      have i4 := I4.out
      obtain ⟨i5, i6, i7, i8, i9, i10, i11⟩ := I5.out
      have R1 := range_of_row D5.out
      go_wp2_with (first | (refine (Num9_any _ _).mono ?_; rintro e wn ⟨rfl, rfl⟩) | (refine wpList_load_midX (by rfl) 23 _ rfl g5 0 rfl (lkC (K j)) _ R1 Try.underlying23 rfl infoHK ?_))
      clear R1 k4
      refine (HLE.out j hj _).mono ?_
      rintro e w10 ⟨rfl, t10⟩
      have D5 := Lib.hid (t10.obj D5.out (fun e => e))
      have D10 := Lib.hid (t10.obj D10.out (fun e => e))
      have PT := Lib.hid (PT.out.pure t10)
      clear t10
      have R1 := range_of_row D10.out
      go_wp2_with (first | (refine wpList_load_mid rfl 23 _ rfl g10 0 rfl (lkC (K (j + 1))) _ R1 Try.underlying23 rfl infoHK ?_) | (refine wpList_store_blk rfl 23 _ _ rfl g5 _ (lkC (K (j + 1))) _ rfl rfl D5.out rfl infoHK (lkC_one _) ?_))
      intro w11 d11 t11 _
      have D5 := Lib.hid d11; have PT := Lib.hid (PT.out.newer t11 l5)
      clear d11 t11 D10 R1 i4 i5 i6 i7 i8 i9 i10 i11 hix zs q4
      have i4 := I4.out
      go_wp2
      exact ⟨⟨j + 1, by omega, by first | rfl | trivial, D5, PT⟩, by simp [intOf]; omega⟩
    · obtain rfl : j = 4 := by omega
      have R1 := range_of_row D5.out
      go_wp2_with (refine wpList_load_mid rfl 23 _ rfl g5 0 rfl (lkC (K 4)) _ R1 Try.underlying23 rfl infoHK ?_)
      clear R1
      refine (HSP.out _).mono ?_
      rintro e w6 ⟨rfl, t6⟩
      have D5 := Lib.hid (t6.obj D5.out (fun e => e))
      have PT := Lib.hid (PT.out.pure t6)
      clear t6
      go_wp2_with (refine wpList_allocZ rfl 23 rfl _ zeroHKs ?_)
      intro g14 w7 e0 c0 t0 s0
      have l14 : w.heap.size ≤ g14 := by have := PT.out.size; omega
      have n5_14 : g5 ≠ g14 := by have := (Array.getElem?_eq_some_iff.1 D5.out).1; omega
      clear e0 s0
      go_wp2_with (refine wpList_store_blk rfl 23 _ _ rfl g14 _ (lkC LKey0) _ rfl rfl c0 rfl infoHK (lkC_one _) ?_)
      intro w8 d1 t1 s1
      clear s1
      have D5 := Lib.hid (t1.obj (t0.obj D5.out (fun e => e)) n5_14)
      have D14 := Lib.hid d1; have PT := Lib.hid ((PT.out.pure t0).newer t1 l14)
      clear c0 t0 d1 t1
      have R1 := range_of_row D5.out
      go_wp2_with (first | (refine (Num9_any _ _).mono ?_; rintro e wn ⟨rfl, rfl⟩) | (refine wpList_load_midX (by rfl) 23 _ rfl g5 0 rfl (lkC (K 4)) _ R1 Try.underlying23 rfl infoHK ?_))
      clear R1
      refine (HLE.out 4 (Nat.le_refl _) _).mono ?_
      rintro e w9 ⟨rfl, t9⟩
      have PT := Lib.hid (PT.out.pure t9)
      clear t9
      go_wp2
      go_ret
      exact ⟨rfl, PT.out⟩
end Go.Proofs.Ytcfbmbhkdicpfaa
