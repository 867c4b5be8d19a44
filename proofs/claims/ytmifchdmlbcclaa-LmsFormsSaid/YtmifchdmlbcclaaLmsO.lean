/- Chapter 5: what was signed is taken, by each index: the walk of the law LmsBack. -/
import Derived.Test.YtmifchdmlbcclaaLmsK
namespace Go.Proofs.Ytmifchdmlbcclaa
open Go.RowKit

/-- A key of a law that has signed i times. -/
def keyN (s : List UInt8) (b i : Nat) : LKey := { keyV s b with next := (i : Int) }
theorem keyN_may (s : List UInt8) {b i : Nat} (hb : b < 2) (hi : i ≤ 2 ^ (1 + b)) : lmayB (keyN s b i) = true := by
  have h1 := filledV_length (105 :: s) 16
  have h2 := filledV_length s 32
  rcases (by omega : b = 0 ∨ b = 1) with rfl | rfl
  · have h3 : (i : Int) ≤ 2 := by have : i ≤ 2 := hi; omega
    simp [lmayB, keyN, keyV, h1, h2, kindB, h3]
  · have h3 : (i : Int) ≤ 4 := by have : i ≤ 4 := hi; omega
    simp [lmayB, keyN, keyV, h1, h2, kindB, h3]
theorem keyN_pub (s : List UInt8) {b i : Nat} (hb : b < 2) (hi : i ≤ 2 ^ (1 + b)) : lpubV (keyN s b i) = lpubV (keyN s b 0) := by
  rw [lpubV, lpubV, if_pos (keyN_may s hb hi), if_pos (keyN_may s hb (Nat.zero_le _))]
  rfl
theorem keyN_sign (s : List UInt8) {b i : Nat} (hb : b < 2) (hi : i < 2 ^ (1 + b)) {msg : List UInt8} (hm : msg.length ≤ 65536) : (lsignV (keyN s b i) msg).2 = (keyN s b (i + 1), 0) := by
  rw [lsign_ok (keyN_may s hb (Nat.le_of_lt hi)) (q := i) (h := 1 + b) rfl rfl hi hm]
  rfl
theorem keyN_spent (s : List UInt8) {b : Nat} (hb : b < 2) {msg : List UInt8} (hm : msg.length ≤ 65536) : lsignV (keyN s b (2 ^ (1 + b))) msg = ([], LKey0, 501) := by
  rw [lsignV, if_pos ⟨keyN_may s hb (Nat.le_refl _), hm⟩, if_pos]
  rfl
theorem keyN_back (s : List UInt8) {b i : Nat} (hb : b < 2) (hi : i < 2 ^ (1 + b)) {msg : List UInt8} (hm : msg.length ≤ 65536) : verifyV (lpubV (keyN s b 0)).1 msg (lsignV (keyN s b i) msg).1 = 0 := by
  rw [← keyN_pub s hb (Nat.le_of_lt hi)]
  exact lms_back (keyN_may s hb (Nat.le_of_lt hi)) (q := i) (h := 1 + b) rfl rfl hi hm
/-- The fourth byte tells the index. -/
theorem keyN_at (s : List UInt8) {b i : Nat} (hb : b < 2) (hi : i < 2 ^ (1 + b)) {msg : List UInt8} (hm : msg.length ≤ 65536) : ∃ t, (lsignV (keyN s b i) msg).1 = beB i 4 ++ t := by
  have hne : ¬ ((i : Int) = ((2 ^ (1 + b) : Nat) : Int)) := by omega
  rw [lsignV, if_pos ⟨keyN_may s hb (Nat.le_of_lt hi), hm⟩]
  show ∃ t, (if (i : Int) = ((2 ^ (1 + b) : Nat) : Int) then _ else _ : List UInt8 × LKey × Int).1 = _
  rw [if_neg hne]
  exact ⟨_, by simp only [List.append_assoc]; rfl⟩

set_option maxRecDepth 100000 in
set_option maxHeartbeats 4000000 in
theorem lmsBack_walk (seed : List UInt8) (x : Int) (msg : List UInt8) (w : World) (hs : seed.length ≤ 140737488351232) (hm0 : msg.length ≤ 140737488351232) :
    Calls Try.prog 10 #[.string (bstr seed), .int .i64 x, .string (bstr msg)] w fun e w' => e = .returned (.bool true) ∧ Pure w w' := by
  obtain ⟨b, hb⟩ : ∃ b : Nat, x % 2 = (b : Int) := ⟨(x % 2).toNat, by omega⟩
  have hb2 : b < 2 := by omega
  have hky := fun W => Key5_any W seed x b hs hb
  have e0 : keyV seed b = keyN seed b 0 := rfl
  rw [e0] at hky
  have zm := bstr_size msg
  by_cases hm : msg.length ≤ 65536
  · have hpu := fun (i : Nat) (hi : i ≤ 2 ^ (1 + b)) W => LPublic_any W (keyN seed b i)
    have hsi := fun (i : Nat) (hi : i < 2 ^ (1 + b)) W => LSign_any W (keyN seed b i) msg
    have hsp := fun W => LSign_any W (keyN seed b (2 ^ (1 + b))) msg
    rw [keyN_spent seed hb2 hm] at hsp
    have hpl := lpub_length (keyN_may seed hb2 (Nat.zero_le _))
    have hp2 : ∀ i, i ≤ 2 ^ (1 + b) → lpubV (keyN seed b i) = ((lpubV (keyN seed b 0)).1, 0) := fun i hi => by
      rw [keyN_pub seed hb2 hi, ← lpub_ok (keyN_may seed hb2 (Nat.zero_le (2 ^ (1 + b))))]
    replace hpu : ∀ i, i ≤ 2 ^ (1 + b) → ∀ W, Calls Try.prog 22 #[.agg (lkC (keyN seed b i)).toArray] W fun e w' => e = .returned (.tuple #[.string (bstr (lpubV (keyN seed b 0)).1), .int .i64 0]) ∧ Pure W w' := fun i hi W => by
      have := hpu i hi W
      rwa [hp2 i hi] at this
    replace hsi : ∀ i, i < 2 ^ (1 + b) → ∀ W, Calls Try.prog 24 #[.agg (lkC (keyN seed b i)).toArray, .string (bstr msg)] W fun e w' => e = .returned (.tuple #[.string (bstr (lsignV (keyN seed b i) msg).1), .agg (lkC (keyN seed b (i + 1))).toArray, .int .i64 0]) ∧ Pure W w' := fun i hi W => by
      have := hsi i hi W
      rwa [keyN_sign seed hb2 hi hm] at this
    have hve : ∀ i, i < 2 ^ (1 + b) → ∀ W, Calls Try.prog 27 #[.string (bstr (lpubV (keyN seed b 0)).1), .string (bstr msg), .string (bstr (lsignV (keyN seed b i) msg).1)] W fun e w' => e = .returned (.int .i64 0) ∧ Pure W w' := fun i hi W => by
      have hl := lsign_length (keyN seed b i) msg
      have := LVerify_any W (lpubV (keyN seed b 0)).1 msg (lsignV (keyN seed b i) msg).1 (by omega) (by omega)
      rwa [keyN_back seed hb2 hi hm] at this
    have hix : ∀ i, i < 2 ^ (1 + b) → 4 ≤ (lsignV (keyN seed b i) msg).1.length ∧ (lsignV (keyN seed b i) msg).1.length ≤ 3000 ∧ ∀ W, (Instr.index 9 (.string (bstr (lsignV (keyN seed b i) msg).1)) (.int .i64 3)).run Try.prog W = .ok (.int .u8 (i : Int)) W := fun i hi => by
      obtain ⟨t, ht⟩ := keyN_at seed hb2 hi hm
      have h4 : 2 ^ (1 + b) ≤ 4 := by rcases (by omega : b = 0 ∨ b = 1) with rfl | rfl <;> decide
      have hl : 4 ≤ (lsignV (keyN seed b i) msg).1.length := by rw [ht, List.length_append, beB_length]; omega
      refine ⟨hl, lsign_length _ _, fun W => ?_⟩
      rw [index_bstr W _ 3 3 rfl (by omega)]
      have h3 : (lsignV (keyN seed b i) msg).1.getD 3 0 = UInt8.ofNat i := by rw [ht]; simp [beB]
      rw [h3, UInt8.toNat_ofNat', Nat.mod_eq_of_lt (by omega)]
    have hcc : ∀ (W : World) (g i : Nat), W.heap[g]? = some (.cells (lkC (keyN seed b i)).toArray 45 (0, 0)) → W.cell? ⟨g, 1, none⟩ = some (.int .i64 ((1 + b : Nat) : Int)) ∧ W.cell? ⟨g, 4, none⟩ = some (.int .i64 (i : Int)) := fun W g i h => ⟨(lk_cells h).2.1, (lk_cells h).2.2.2.2⟩
    obtain ⟨m, hmm⟩ : ∃ m, m = 2 ^ (1 + b) := ⟨_, rfl⟩
    obtain ⟨h, hh⟩ : ∃ h, h = 1 + b := ⟨_, rfl⟩
    have hh5 : h = 1 ∨ h = 2 ∨ h = 3 ∨ h = 4 ∨ h = 5 := by omega
    rw [← hh] at hmm hcc
    have hp0 : ((2 ^ h : Nat) : Int) = (2 : Int) ^ h := by rw [Int.natCast_pow]; rfl
    have hsh1 : wrap64 ((2 : Int) ^ h) = (m : Int) := by rw [hmm, hp0]; exact may_sh1 h hh5
    have hsh2 : IntKind.i64.wrap ((2 : Int) ^ h) = (m : Int) := by rw [hmm, hp0]; exact may_sh2 h hh5
    have hsh3 : IntKind.i64.wrap ((2 : Int) ^ min h 64) = (m : Int) := by rw [hmm, hp0]; exact may_sh3 h hh5
    have hm4 : m ≤ 4 := by rw [hmm, hh]; rcases (by omega : b = 0 ∨ b = 1) with rfl | rfl <;> decide
    rw [hh, ] at hmm
    rw [← hmm] at hpu hsi hsp hve hix
    have HSH := Lib.hid (And.intro hsh1 (And.intro hsh2 hsh3))
    have hKl := fun i => lkC_one (keyN seed b i)
    generalize keyN seed b = K at *
    generalize (lpubV (K 0)).1 = P at *
    obtain ⟨SG, hSG⟩ : ∃ SG : Nat → List UInt8, SG = fun i => (lsignV (K i) msg).1 := ⟨_, rfl⟩
    have eSG : ∀ i, (lsignV (K i) msg).1 = SG i := fun i => by rw [hSG]
    simp only [eSG] at hsi hve hix
    have HKY := Lib.hid hky; have HPU := Lib.hid hpu; have HSI := Lib.hid hsi; have HSP := Lib.hid hsp; have HVE := Lib.hid hve; have HIX := Lib.hid hix; have HCC := Lib.hid hcc; have HKL := Lib.hid hKl
    have zSG : Hid (∀ i, (bstr (SG i)).size = (SG i).length) := Lib.hid fun i => bstr_size _
    have gm : ¬ ((65536 : Int) < (msg.length : Int)) := by omega
    clear hky hpu hsi hsp hve hix hcc hKl eSG hSG hsh1 hsh2 hsh3 hp0 hh5 hpl hp2 e0 hb hb2 hmm hh hs
    have PT := Lib.hid (Turn.refl (fun _ => False) w)
    go_enter Try.func10, Try.ntmps10
    go_wp2_with fail
    refine (awake5 _).mono ?_
    rintro e w1 ⟨rfl, t1⟩
    have PT := Lib.hid (PT.out.pure t1)
    clear t1
    go_wp2_with fail
    refine (HKY.out _).mono ?_
    rintro e w2 ⟨rfl, t2⟩
    have PT := Lib.hid (PT.out.pure t2)
    clear t2
    go_wp2_with (refine wpList_allocZ rfl 45 rfl _ zeroLK ?_)
    intro g7 w3 e3 c3 t3 s3
    have l7 : w.heap.size ≤ g7 := by have := PT.out.size; omega
    clear e3 s3
    go_wp2_with (refine wpList_store_blk rfl 45 _ _ rfl g7 _ (lkC (K 0)) _ rfl rfl c3 rfl infoLK (HKL.out 0) ?_)
    intro w4 d4 t4 s4
    clear s4
    have D7 := Lib.hid d4; have PT := Lib.hid ((PT.out.pure t3).newer t4 l7)
    clear c3 t3 d4 t4
    have R1 := range_of_row D7.out
    go_wp2_with (refine wpList_load_mid rfl 45 _ rfl g7 0 rfl (lkC (K 0)) _ R1 Try.underlying45 rfl infoLK ?_)
    clear R1
    refine (HPU.out 0 (Nat.zero_le _) _).mono ?_
    rintro e w5 ⟨rfl, t5⟩
    have D7 := Lib.hid (t5.obj D7.out (fun e => e)); have PT := Lib.hid (PT.out.pure t5)
    clear t5
    go_wp2
    go_loopw [10] (fun i wr => ∃ j : Nat, j ≤ m ∧ i = .int .i64 (j : Int) ∧ Hid (wr.heap[g7]? = some (.cells (lkC (K j)).toArray 45 (0, 0))) ∧ Hid (Pure w wr)) (fun i _ => m - (intOf i).toNat)
    case atStart => exact ⟨0, Nat.zero_le _, rfl, D7, PT⟩
    case round =>
      clear D7 PT
      obtain ⟨j, hj, rfl, D7, PT⟩ := hrel
      obtain ⟨k1, _⟩ := HCC.out _ _ _ D7.out
      obtain ⟨i1, i2, i3⟩ := HSH.out
      by_cases hlt : j < m
      · have q1 : (j : Int) < m := by omega
        have R1 := range_of_row D7.out
        go_wp2_with (refine wpList_load_mid rfl 45 _ rfl g7 0 rfl (lkC (K j)) _ R1 Try.underlying45 rfl infoLK ?_)
        clear R1 k1 i1 i2 i3
        refine (HSI.out j hlt _).mono ?_
        rintro e w6 ⟨rfl, t6⟩
        have D7 := Lib.hid (t6.obj D7.out (fun e => e)); have PT := Lib.hid (PT.out.pure t6)
        clear t6
        go_wp2_with (refine wpList_allocZ rfl 45 rfl _ zeroLK ?_)
        intro g12 w7 e7 c7 t7 s7
        have l12 : w.heap.size ≤ g12 := by have := PT.out.size; omega
        have n712 : g7 ≠ g12 := by have := (Array.getElem?_eq_some_iff.1 D7.out).1; omega
        clear e7 s7
        go_wp2_with (refine wpList_store_blk rfl 45 _ _ rfl g12 _ (lkC (K (j + 1))) _ rfl rfl c7 rfl infoLK (HKL.out (j + 1)) ?_)
        intro w8 d8 t8 s8
        clear s8
        have D12 := Lib.hid d8; have D7 := Lib.hid (t8.obj (t7.obj D7.out (fun e => e)) n712); have PT := Lib.hid ((PT.out.pure t7).newer t8 l12)
        clear c7 t7 d8 t8
        obtain ⟨_, k4⟩ := HCC.out _ _ _ D12.out
        obtain ⟨h4, h3000, hix⟩ := HIX.out j hlt
        have zs := zSG.out j
        have q4 : ¬ ((SG j).length : Int) < 4 := by omega
        have i4 : IntKind.i64.wrap ((j : Int) + 1) = ((j + 1 : Nat) : Int) := by rw [IntWalk.i64_in _ (by omega)]; omega
        go_wp2_with (refine (Num9_any _ _).mono ?_; rintro e wn ⟨rfl, rfl⟩)
        clear k4 hix
        refine (HVE.out j hlt _).mono ?_
        rintro e w9 ⟨rfl, t9⟩
        have D7 := Lib.hid (t9.obj D7.out (fun e => e)); have D12 := Lib.hid (t9.obj D12.out (fun e => e)); have PT := Lib.hid (PT.out.pure t9)
        clear t9
        have R1 := range_of_row D12.out
        go_wp2_with (first | (refine (Num9_any _ _).mono ?_; rintro e wn ⟨rfl, rfl⟩) | (refine wpList_load_mid rfl 45 _ rfl g12 0 rfl (lkC (K (j + 1))) _ R1 Try.underlying45 rfl infoLK ?_) | (refine wpList_store_blk rfl 45 _ _ rfl g7 _ (lkC (K (j + 1))) _ rfl rfl D7.out rfl infoLK (HKL.out (j + 1)) ?_))
        intro w10 d10 t10 s10
        clear s10 R1
        have D7 := Lib.hid d10; have PT := Lib.hid (PT.out.newer t10 l7)
        clear d10 t10 D12 n712 l12 zs q4 h4 h3000
        go_wp2
        exact ⟨⟨j + 1, by omega, rfl, D7, PT⟩, by simp [intOf]; omega⟩
      · obtain rfl : j = m := by omega
        have q1 : ¬ ((j : Int) < j) := by omega
        have ep : (P == P) = true := beq_self_eq_true _
        have R1 := range_of_row D7.out
        go_wp2_with (refine wpList_load_mid rfl 45 _ rfl g7 0 rfl (lkC (K j)) _ R1 Try.underlying45 rfl infoLK ?_)
        clear R1 k1 i1 i2 i3
        refine (HSP.out _).mono ?_
        rintro e w6 ⟨rfl, t6⟩
        have D7 := Lib.hid (t6.obj D7.out (fun e => e)); have PT := Lib.hid (PT.out.pure t6)
        clear t6
        go_wp2_with (refine wpList_allocZ rfl 45 rfl _ zeroLK ?_)
        intro g16 w7 e7 c7 t7 s7
        have l16 : w.heap.size ≤ g16 := by have := PT.out.size; omega
        have n716 : g7 ≠ g16 := by have := (Array.getElem?_eq_some_iff.1 D7.out).1; omega
        clear e7 s7
        go_wp2_with (refine wpList_store_blk rfl 45 _ _ rfl g16 _ (lkC LKey0) _ rfl rfl c7 rfl infoLK (lkC_one _) ?_)
        intro w8 d8 t8 s8
        clear s8
        have D7 := Lib.hid (t8.obj (t7.obj D7.out (fun e => e)) n716); have PT := Lib.hid ((PT.out.pure t7).newer t8 l16)
        clear c7 t7 d8 t8
        have R1 := range_of_row D7.out
        go_wp2_with (refine wpList_load_mid rfl 45 _ rfl g7 0 rfl (lkC (K j)) _ R1 Try.underlying45 rfl infoLK ?_)
        clear R1
        refine (HPU.out j (Nat.le_refl _) _).mono ?_
        rintro e w9 ⟨rfl, t9⟩
        have PT := Lib.hid (PT.out.pure t9)
        clear t9 D7
        go_wp2_with (refine (Num9_any _ _).mono ?_; rintro e wn ⟨rfl, rfl⟩)
        go_ret
        exact ⟨rfl, PT.out⟩
  · have q1 : (65536 : Int) < (msg.length : Int) := by omega
    have HKY := Lib.hid hky
    clear hky e0 hb hb2 hs
    have PT := Lib.hid (Turn.refl (fun _ => False) w)
    go_enter Try.func10, Try.ntmps10
    go_wp2_with fail
    refine (awake5 _).mono ?_
    rintro e w1 ⟨rfl, t1⟩
    have PT := Lib.hid (PT.out.pure t1)
    clear t1
    go_wp2_with fail
    refine (HKY.out _).mono ?_
    rintro e w2 ⟨rfl, t2⟩
    have PT := Lib.hid (PT.out.pure t2)
    clear t2
    go_wp2_with (refine wpList_allocZ rfl 45 rfl _ zeroLK ?_)
    intro g7 w3 e3 c3 t3 s3
    have l7 : w.heap.size ≤ g7 := by have := PT.out.size; omega
    clear e3 s3
    go_wp2_with (refine wpList_store_blk rfl 45 _ _ rfl g7 _ (lkC (keyN seed b 0)) _ rfl rfl c3 rfl infoLK (lkC_one _) ?_)
    intro w4 d4 t4 s4
    clear s4
    have PT := Lib.hid ((PT.out.pure t3).newer t4 l7)
    clear c3 t3 d4 t4
    go_wp2
    go_ret
    exact ⟨rfl, PT.out⟩
end Go.Proofs.Ytmifchdmlbcclaa
