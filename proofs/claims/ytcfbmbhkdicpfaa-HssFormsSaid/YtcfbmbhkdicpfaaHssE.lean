/- Chapter 6's awake: what is answered, in plain Lean. Chapter 6: the law's key; what every program answers; any signature. -/
import Derived.Test.YtcfbmbhkdicpfaaHssP
import Derived.Test.YtcfbmbhkdicpfaaHssC
import Derived.Test.YtcfbmbhkdicpfaaFill
import Derived.Test.YtcfbmbhkdicpfaaHss4
import Derived.Test.YtcfbmbhkdicpfaaHssD
import Derived.Test.YtcfbmbhkdicpfaaFill6
namespace Go.Proofs.Ytcfbmbhkdicpfaa
open Go.RowKit

/-- A key of a law. -/
def keyH (s : List UInt8) (n : Nat) : LKey := ⟨3, 1, filledV (105 :: s) 16, filledV s 32, (n : Int)⟩
theorem keyH_may (s : List UInt8) {n : Nat} (hn : n ≤ 4) : hmayB (keyH s n) = true := by
  have h1 := filledV_length (105 :: s) 16
  have h2 := filledV_length s 32
  have h3 : (n : Int) ≤ 4 := by omega
  simp [hmayB, keyH, h1, h2, kindB, h3]
/-- The lower key of the law's key. -/
def hlowC : LKey := ⟨3, 1, beB hcID 16, beB hcS 32, 1⟩
theorem hlow_is : lowV (keyH [115] 3) = hlowC := by
  have e1 : (keyH [115] 3).id = [105, 115] ++ List.replicate 14 0 := by decide
  have e2 : (keyH [115] 3).seed = [115] ++ List.replicate 31 0 := by decide
  rw [lowV, e1, e2, show upN (keyH [115] 3) = 1 from rfl, hcLow.1, hcLow.2]
  rfl
theorem hlow_may : lmayB hlowC = true := by rw [← hlow_is]; exact low_may (keyH_may [115] (by decide))
theorem hc_pubF (q : Nat) (hq : q ≤ 1) : pubF hlowC q = otsPubV 4 67 (placeV (beB hcID 16) q) (beB hcS 32) := by
  have h1 : kindB 3 = true := rfl
  have h2 : placeB (beB hcID 16) (q : Int) = true := decide_eq_true ⟨beB_length _ _, by omega⟩
  have h3 : (beB hcS 32).length = 32 := beB_length _ _
  show (pubV 3 (beB hcID 16) (q : Int) (beB hcS 32)).1 = _
  rw [pubV, if_pos ⟨h1, h2, h3⟩]
  rfl
theorem hc_cand : (candV hlowC.id (1 : Nat) [120] (signV hlowC.ots hlowC.id (1 : Nat) hlowC.seed [109]).1).1 = otsCandV 4 67 4 (placeV (beB hcID 16) 1) [120] (otsSignV 3 4 67 4 (placeV (beB hcID 16) 1) (beB hcS 32) [109]) := by
  have h1 : kindB 3 = true := rfl
  have h2 : placeB (beB hcID 16) ((1 : Nat) : Int) = true := decide_eq_true ⟨beB_length _ _, by decide⟩
  have h3 : (beB hcS 32).length = 32 := beB_length _ _
  have hsv : (signV hlowC.ots hlowC.id (1 : Nat) hlowC.seed [109]).1 = otsSignV 3 4 67 4 (placeV (beB hcID 16) 1) (beB hcS 32) [109] := by
    show (signV 3 (beB hcID 16) (1 : Nat) (beB hcS 32) [109]).1 = _
    rw [signV, if_pos ⟨h1, h2, h3, by decide⟩]
    rfl
  have hl := otsSign_length 3 4 67 4 (placeV (beB hcID 16) 1) (beB hcS 32) [109]
  have h4 : n4 (otsSignV 3 4 67 4 (placeV (beB hcID 16) 1) (beB hcS 32) [109]) = 3 := by
    rw [otsSignV, List.append_assoc]; exact n4_be (by omega) _
  have hks : kindSV (otsSignV 3 4 67 4 (placeV (beB hcID 16) 1) (beB hcS 32) [109]) = (3, true) := by
    rw [kindSV, if_neg (by omega), k4V_n4 (by omega), h4, hl]; rfl
  have e3 : parV 3 = (4, 67, 4) := rfl
  rw [hsv, show hlowC.id = beB hcID 16 from rfl, candV, hks, if_pos ⟨rfl, h2, by decide⟩]
  simp only [e3, Int.toNat_natCast]
theorem hc_low : verifyV (lpubV hlowC).1 [120] (lsignV hlowC [109]).1 = 502 := by
  rw [verify_signed hlow_may (q := 1) (h := 1) rfl rfl (by decide) (by decide) (by decide), if_neg]
  intro h
  refine hcapart ?_
  have n3 : nodeN hlowC.id (pubF hlowC) (2 ^ 1) 3 = tipV (beB hcID 16) 3 (otsPubV 4 67 (placeV (beB hcID 16) 1) (beB hcS 32)) := by
    rw [nodeN_leaf (by decide), show 3 - 2 ^ 1 = 1 from rfl, hc_pubF 1 (by decide)]; rfl
  have n2 : nodeN hlowC.id (pubF hlowC) (2 ^ 1) 2 = tipV (beB hcID 16) 2 (otsPubV 4 67 (placeV (beB hcID 16) 0) (beB hcS 32)) := by
    rw [nodeN_leaf (by decide), show 2 - 2 ^ 1 = 0 from rfl, hc_pubF 0 (by decide)]; rfl
  have n1 : nodeN hlowC.id (pubF hlowC) (2 ^ 1) 1 = nodV (beB hcID 16) 1 (tipV (beB hcID 16) 2 (otsPubV 4 67 (placeV (beB hcID 16) 0) (beB hcS 32))) (tipV (beB hcID 16) 3 (otsPubV 4 67 (placeV (beB hcID 16) 1) (beB hcS 32))) := by
    rw [nodeN_in (by decide) (by decide), show 2 * 1 = 2 from rfl, show 2 + 1 = 3 from rfl, n2, n3]; rfl
  rw [← n1, ← h, climbV, climbV]
  rw [show (2 ^ 1 + 1) / 2 ^ 0 = 3 from rfl, if_neg (by decide), show (2 ^ 1 + 1) / 2 ^ (0 + 1) = 1 from rfl, show 2 ^ 1 + 1 = 3 from rfl]
  have hs := sideV_at (nodeN hlowC.id (pubF hlowC) (2 ^ 1)) (fun i => nodeN_length _ _ _ _) 3 1 0 [] (by decide)
  rw [List.append_nil, show (3 / 2 ^ 0) ^^^ 1 = 2 from rfl, n2] at hs
  rw [hs, hc_cand]
  rfl
theorem hc_verify : hverifyV (hpubV (keyH [115] 3)).1 [120] (hsignV (keyH [115] 3) [109]).1 = 602 := by
  rw [hverify_signed (keyH_may [115] (by decide)) (by decide) (by decide), hlow_is, hc_low]
  rfl
theorem hverify_none (msg sign : List UInt8) : hverifyV [] msg sign = 600 := by
  rw [hverifyV, if_neg (fun h => by have := h.1; simp at this)]
end Go.Proofs.Ytcfbmbhkdicpfaa
namespace Go.Proofs.Ytcfbmbhkdicpfaa
open Go.RowKit
set_option maxRecDepth 100000

/-- The index of a law's key. -/
def keyB (x : Int) (m : Nat) : Nat := (x % 18446744073709551616).toNat % m
theorem keyB_nat (n : Nat) (h : n < 5) : keyB (n : Int) 5 = n := by unfold keyB; omega
theorem keyB_le (x : Int) : keyB x 5 ≤ 4 := by unfold keyB; omega

set_option maxHeartbeats 4000000 in
theorem Key6_any (w : World) (s : List UInt8) (x : Int) (hs : s.length ≤ 140737488351232) : Calls Try.prog 21 #[.string (bstr s), .int .i64 x] w fun e w' =>
    e = .returned (.agg (lkC (keyH s (keyB x 5))).toArray) ∧ Pure w w' := by
  obtain ⟨X, hX1, hX2⟩ : ∃ X : Nat, IntKind.u64.wrap x = (X : Int) ∧ X % 5 = keyB x 5 := by
    refine ⟨(x % 18446744073709551616).toNat, ?_, rfl⟩
    rw [IntKind.wrap_u64]; omega
  have hb4 := keyB_le x
  generalize keyB x 5 = b at *
  have hX4 : (X : Int) % 5 = (b : Int) := by omega
  have HWW : Hid (IntKind.u64.wrap (b : Int) = (b : Int) ∧ IntKind.i64.wrap (b : Int) = (b : Int)) := Lib.hid ⟨by rw [IntKind.wrap_u64]; omega, IntWalk.i64_in _ (by omega)⟩
  have hf1 := fun W => filled6_any W (105 :: s) 16 (by omega) (by simp; omega)
  have hf2 := fun W => filled6_any W s 32 (by omega) (by omega)
  obtain ⟨S1, hS1⟩ : ∃ S1, S1 = 105 :: s := ⟨_, rfl⟩
  have hkv : keyH s b = ⟨3, 1, filledV S1 16, filledV s 32, (b : Int)⟩ := by rw [hS1]; rfl
  have ap : (⟨#[105]⟩ : ByteArray) ++ bstr s = bstr S1 := by rw [hS1]; exact bstr_app [105] s
  rw [← hS1] at hf1
  have zs := bstr_size s
  obtain ⟨n, hn⟩ : ∃ n, n = s.length := ⟨_, rfl⟩
  rw [← hn] at zs hs
  have z1 : (bstr S1).size = 1 + n := by rw [bstr_size, hS1, hn]; simp; omega
  have n1 : ¬ (9223372036854775807 < 1 + n) := by omega
  obtain ⟨wu, wi⟩ := HWW.out
  generalize filledV S1 16 = F1 at *
  generalize filledV s 32 = F2 at *
  have HF1 := Lib.hid hf1; have HF2 := Lib.hid hf2
  rw [hkv]
  have PT := Lib.hid (Turn.refl (fun _ => False) w)
  clear hf1 hf2 hkv hS1 hn hX2 hb4
  go_enter Try.func21, Try.ntmps21
  go_wp2_with (refine wpList_allocZ rfl 23 rfl _ zeroHKs ?_)
  intro g4 w1 e1 c1 t1 s1
  have lg4 : w.heap.size ≤ g4 := by have := PT.out.size; omega
  clear e1 s1
  have D4 := Lib.hid c1
  have PT := Lib.hid (PT.out.pure t1)
  clear c1 t1
  go_wp2_with fail
  refine (HF1.out _).mono ?_
  rintro e w2 ⟨rfl, t2⟩
  have D4 := Lib.hid (t2.obj D4.out (fun e => e))
  have PT := Lib.hid (PT.out.pure t2)
  clear t2
  go_wp2_with fail
  refine (HF2.out _).mono ?_
  rintro e w3 ⟨rfl, t3⟩
  have D4 := Lib.hid (t3.obj D4.out (fun e => e))
  have PT := Lib.hid (PT.out.pure t3)
  clear t3
  go_wp2_with (refine wpList_store_blk rfl 23 _ _ rfl g4 _ (lkC ⟨3, 1, F1, F2, (b : Int)⟩) _ rfl rfl D4.out rfl infoHK (lkC_one _) ?_)
  intro w4 d4 t4 _
  have D4 := Lib.hid d4; have PT := Lib.hid (PT.out.newer t4 lg4)
  clear d4 t4
  go_wp2
  exact bodyPost_ret (v := .agg (lkC ⟨3, 1, F1, F2, (b : Int)⟩).toArray) (results_cell_row Try.results21 _ _ g4 _ _ _ _ rfl D4.out Try.underlying23 rfl infoHK) rfl ⟨rfl, PT.out⟩

theorem hpub_ok {k : LKey} (h : hmayB k = true) : (hpubV k).2 = 0 := by rw [hpubV, if_pos h]
theorem hpub_length {k : LKey} (h : hmayB k = true) : (hpubV k).1.length = 60 := by
  rw [hpubV, if_pos h]
  show (beB 2 4 ++ (lpubV (upV k)).1).length = 60
  rw [List.length_append, beB_length, lpub_length (up_may h)]
theorem hsign_ok {k : LKey} (h : hmayB k = true) (hne : k.next ≠ ((2 ^ (2 * k.height.toNat) : Nat) : Int)) {msg : List UInt8} (hm : msg.length ≤ 65536) : (hsignV k msg).2 = ({ k with next := k.next + 1 }, 0) := by
  rw [hsignV, if_pos ⟨h, hm⟩, if_neg hne]
theorem hsign_length (k : LKey) (msg : List UInt8) : (hsignV k msg).1.length ≤ 7000 := by
  unfold hsignV
  split
  · split
    · simp
    · rename_i h _
      have h1 := lsign_length (upV k) (lpubV (lowV k)).1
      have h2 := lsign_length (lowV k) msg
      have h3 := lpub_length (low_may h.1)
      simp only [List.length_append, beB_length, h3]
      omega
  · simp
theorem hsign_spent {k : LKey} (h : hmayB k = true) (hne : k.next = ((2 ^ (2 * k.height.toNat) : Nat) : Int)) {msg : List UInt8} (hm : msg.length ≤ 65536) : hsignV k msg = ([], LKey0, 601) := by
  rw [hsignV, if_pos ⟨h, hm⟩, if_pos hne]

set_option maxHeartbeats 4000000 in
theorem awake6 (w : World) : Calls Try.prog 18 #[] w fun e w' => e = .returned (.bool true) ∧ Pure w w' := by
  have hB := keyH_may [115] (n := 3) (by decide)
  have hB4 := keyH_may [115] (n := 4) (by decide)
  have hne : (keyH [115] 3).next ≠ ((2 ^ (2 * (keyH [115] 3).height.toNat) : Nat) : Int) := by decide
  have hky := fun W => Key6_any W [115] 3 (by decide)
  rw [show keyB 3 5 = 3 from keyB_nat 3 (by decide)] at hky
  have hpu := fun W => HPublic_any W (keyH [115] 3)
  have hsi := fun W => HSign_any W (keyH [115] 3) [109]
  have hsp := fun W => HSign_any W (keyH [115] 4) [109]
  have hle := fun W => HLeft_any W (keyH [115] 3)
  have hpz := fun W => HPublic_any W LKey0
  rw [hsign_spent hB4 rfl (by decide)] at hsp
  rw [show hleftV (keyH [115] 3) = 1 from by rw [hleftV, if_pos hB]; rfl] at hle
  rw [show hpubV LKey0 = ([], 600) from by rw [hpubV, if_neg (by decide)]] at hpz
  have hpl := hpub_length hB
  have hsl := hsign_length (keyH [115] 3) [109]
  rw [hpub_ok hB] at hpu
  rw [hsign_ok hB hne (by decide), show ({ keyH [115] 3 with next := (keyH [115] 3).next + 1 } : LKey) = keyH [115] 4 from rfl] at hsi
  have hv1 := fun W => HVerify_any W (hpubV (keyH [115] 3)).1 [109] (hsignV (keyH [115] 3) [109]).1 (by omega) (by omega)
  have hv2 := fun W => HVerify_any W (hpubV (keyH [115] 3)).1 [120] (hsignV (keyH [115] 3) [109]).1 (by omega) (by omega)
  rw [hss_back hB hne (by decide)] at hv1
  rw [hc_verify] at hv2
  have hn4 : ∀ (W : World) g, W.heap[g]? = some (.cells (lkC (keyH [115] 4)).toArray 23 (0, 0)) → W.cell? ⟨g, 4, none⟩ = some (.int .i64 4) := fun W g hg => (hk_cells hg).2.2.2.2
  generalize keyH [115] 4 = K4 at *
  generalize keyH [115] 3 = K at *
  generalize (hpubV K).1 = P at *
  generalize (hsignV K [109]).1 = SG at *
  have HKY := Lib.hid hky; have HPU := Lib.hid hpu; have HSI := Lib.hid hsi; have HSP := Lib.hid hsp; have HV1 := Lib.hid hv1; have HV2 := Lib.hid hv2; have HLE := Lib.hid hle; have HPZ := Lib.hid hpz; have HN4 := Lib.hid hn4
  have zP : (bstr P).size = 60 := by rw [bstr_size, hpl]
  clear hky hpu hsi hsp hv1 hv2 hle hpz hn4 hB hB4 hne hsl hpl
  have PT := Lib.hid (Turn.refl (fun _ => False) w)
  go_enter Try.func18, Try.ntmps18
  go_wp2_with fail
  refine (HKY.out _).mono ?_
  rintro e w1 ⟨rfl, t1⟩
  have PT := Lib.hid (PT.out.pure t1)
  clear t1
  go_wp2_with (refine wpList_allocZ rfl 23 rfl _ zeroHKs ?_)
  intro g1 w2 e0 c0 t0 s0
  have l1 : w.heap.size ≤ g1 := by have := PT.out.size; omega
  clear e0 s0
  go_wp2_with (refine wpList_store_blk rfl 23 _ _ rfl g1 _ (lkC K) _ rfl rfl c0 rfl infoHK (lkC_one _) ?_)
  intro w3 d1 t1 s1
  clear s1
  have D1 := Lib.hid d1; have PT := Lib.hid ((PT.out.pure t0).newer t1 l1)
  clear c0 t0 d1 t1
  have R1 := range_of_row D1.out
  go_wp2_with (refine wpList_load_mid rfl 23 _ rfl g1 0 rfl (lkC K) _ R1 Try.underlying23 rfl infoHK ?_)
  clear R1
  refine (HPU.out _).mono ?_
  rintro e w4 ⟨rfl, t4⟩
  have D1 := Lib.hid (t4.obj D1.out (fun e => e))
  have PT := Lib.hid (PT.out.pure t4)
  clear t4
  have R1 := range_of_row D1.out
  go_wp2_with (refine wpList_load_mid rfl 23 _ rfl g1 0 rfl (lkC K) _ R1 Try.underlying23 rfl infoHK ?_)
  clear R1
  refine (HSI.out _).mono ?_
  rintro e w5 ⟨rfl, t5⟩
  have D1 := Lib.hid (t5.obj D1.out (fun e => e))
  have PT := Lib.hid (PT.out.pure t5)
  clear t5
  go_wp2_with (refine wpList_allocZ rfl 23 rfl _ zeroHKs ?_)
  intro g5 w6 e0 c0 t0 s0
  have l5 : w.heap.size ≤ g5 := by have := PT.out.size; omega
  have n1_5 : g1 ≠ g5 := by have := (Array.getElem?_eq_some_iff.1 D1.out).1; omega
  clear e0 s0
  go_wp2_with (refine wpList_store_blk rfl 23 _ _ rfl g5 _ (lkC K4) _ rfl rfl c0 rfl infoHK (lkC_one _) ?_)
  intro w7 d1 t1 s1
  clear s1
  have D1 := Lib.hid (t1.obj (t0.obj D1.out (fun e => e)) n1_5)
  have D5 := Lib.hid d1; have PT := Lib.hid ((PT.out.pure t0).newer t1 l5)
  clear c0 t0 d1 t1
  go_wp2_with fail
  refine (HV1.out _).mono ?_
  rintro e w8 ⟨rfl, t8⟩
  have D1 := Lib.hid (t8.obj D1.out (fun e => e))
  have D5 := Lib.hid (t8.obj D5.out (fun e => e))
  have PT := Lib.hid (PT.out.pure t8)
  clear t8
  go_wp2_with fail
  refine (HV2.out _).mono ?_
  rintro e w9 ⟨rfl, t9⟩
  have D1 := Lib.hid (t9.obj D1.out (fun e => e))
  have D5 := Lib.hid (t9.obj D5.out (fun e => e))
  have PT := Lib.hid (PT.out.pure t9)
  clear t9
  have R1 := range_of_row D5.out
  go_wp2_with (refine wpList_load_mid rfl 23 _ rfl g5 0 rfl (lkC K4) _ R1 Try.underlying23 rfl infoHK ?_)
  clear R1
  refine (HSP.out _).mono ?_
  rintro e w10 ⟨rfl, t10⟩
  have D1 := Lib.hid (t10.obj D1.out (fun e => e))
  have D5 := Lib.hid (t10.obj D5.out (fun e => e))
  have PT := Lib.hid (PT.out.pure t10)
  clear t10
  go_wp2_with (refine wpList_allocZ rfl 23 rfl _ zeroHKs ?_)
  intro g10 w11 e0 c0 t0 s0
  have l10 : w.heap.size ≤ g10 := by have := PT.out.size; omega
  have n1_10 : g1 ≠ g10 := by have := (Array.getElem?_eq_some_iff.1 D1.out).1; omega
  have n5_10 : g5 ≠ g10 := by have := (Array.getElem?_eq_some_iff.1 D5.out).1; omega
  clear e0 s0
  go_wp2_with (refine wpList_store_blk rfl 23 _ _ rfl g10 _ (lkC LKey0) _ rfl rfl c0 rfl infoHK (lkC_one _) ?_)
  intro w12 d1 t1 s1
  clear s1
  have D1 := Lib.hid (t1.obj (t0.obj D1.out (fun e => e)) n1_10)
  have D5 := Lib.hid (t1.obj (t0.obj D5.out (fun e => e)) n5_10)
  have D10 := Lib.hid d1; have PT := Lib.hid ((PT.out.pure t0).newer t1 l10)
  clear c0 t0 d1 t1
  go_wp2_with fail
  refine (HPZ.out _).mono ?_
  rintro e w13 ⟨rfl, t13⟩
  have D1 := Lib.hid (t13.obj D1.out (fun e => e))
  have D5 := Lib.hid (t13.obj D5.out (fun e => e))
  have PT := Lib.hid (PT.out.pure t13)
  clear t13
  have c5 := HN4.out _ _ D5.out
  have R1 := range_of_row D1.out
  go_wp2_with (first | (refine (Num9_any _ _).mono ?_; rintro e wn ⟨rfl, rfl⟩) | (refine wpList_load_midX (by rfl) 23 _ rfl g1 0 rfl (lkC K) _ R1 Try.underlying23 rfl infoHK ?_))
  refine (HLE.out _).mono ?_
  rintro e w14 ⟨rfl, t14⟩
  have PT := Lib.hid (PT.out.pure t14)
  clear t14 c5 R1
  go_wp2
  go_ret
  exact ⟨rfl, PT.out⟩

set_option maxHeartbeats 4000000 in
theorem hssVerifies_walk (pub msg sign : List UInt8) (w : World) (hp : pub.length ≤ 140737488351232) (_ : msg.length ≤ 140737488351232) (hs : sign.length ≤ 140737488351232) :
    Calls Try.prog 4 #[.string (bstr pub), .string (bstr msg), .string (bstr sign)] w fun e w' => e = .returned (.bool true) ∧ Pure w w' := by
  have HV := Lib.hid (fun W => HVerify_any W pub msg sign hp hs)
  have HR := Lib.hid (fun W => RHVerify_any W pub msg sign hp hs)
  generalize hverifyV pub msg sign = v at *
  have ev : (v == v) = true := beq_self_eq_true _
  have PT := Lib.hid (Turn.refl (fun _ => False) w)
  go_enter Try.func4, Try.ntmps4
  go_wp2_with fail
  refine (HV.out _).mono ?_
  rintro e w1 ⟨rfl, t1⟩
  have PT := Lib.hid (PT.out.pure t1)
  clear t1
  go_wp2_with (refine (Num9_any _ _).mono ?_; rintro e wn ⟨rfl, rfl⟩)
  refine (HR.out _).mono ?_
  rintro e w2 ⟨rfl, t2⟩
  have PT := Lib.hid (PT.out.pure t2)
  clear t2
  go_wp2_with fail
  refine (awake6 _).mono ?_
  rintro e w3 ⟨rfl, t3⟩
  have PT := Lib.hid (PT.out.pure t3)
  clear t3
  go_wp2
  go_ret
  exact ⟨rfl, PT.out⟩
end Go.Proofs.Ytcfbmbhkdicpfaa
