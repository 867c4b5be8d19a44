/- Chapter 6: the law's keys and their signatures. -/
import Derived.Test.YtcfbmbhkdicpfaaHssE
namespace Go.Proofs.Ytcfbmbhkdicpfaa
open Go.RowKit
set_option maxRecDepth 100000

theorem index_bstrH (w : World) (s : List UInt8) (i : Int) (j : Nat) (hj : i = (j : Int)) (hlt : j < s.length) : (Instr.index 9 (.string (bstr s)) (.int .i64 i)).run Try.prog w = .ok (.int .u8 ((s.getD j 0).toNat : Int)) w := by
  subst hj
  have hz := bstr_size s
  have hb := bstr_get s j (by omega)
  simp [Instr.index, run_underlying Try.underlying9, asIntOf, hz, hlt, hb]
theorem lpub_nextG {U : LKey} (h : lmayB U = true) : lpubV { U with next := 0 } = lpubV U := by
  have h2 : lmayB { U with next := 0 } = true := by
    simp only [lmayB, Bool.and_eq_true, decide_eq_true_eq] at h ⊢
    exact ⟨⟨⟨⟨⟨⟨h.1.1.1.1.1.1, h.1.1.1.1.1.2⟩, h.1.1.1.1.2⟩, h.1.1.1.2⟩, h.1.1.2⟩, Int.le_refl _⟩, Int.pow_nonneg (by decide)⟩
  rw [lpubV, if_pos h2, lpubV, if_pos h]
  rfl
theorem keyH_up (s : List UInt8) (i : Nat) : upV (keyH s i) = { keyH s 0 with next := ((i / 2 : Nat) : Int) } := by
  rw [upV, upN]; rfl
theorem keyH_pub (s : List UInt8) {i : Nat} (hi : i ≤ 4) : hpubV (keyH s i) = ((hpubV (keyH s 0)).1, 0) := by
  have h1 := keyH_may s hi
  have h0 := keyH_may s (n := 0) (by decide)
  have e1 := lpub_nextG (up_may h1)
  have e0 := lpub_nextG (up_may h0)
  have e : ({ upV (keyH s i) with next := 0 } : LKey) = { upV (keyH s 0) with next := 0 } := rfl
  rw [hpubV, if_pos h1, hpubV, if_pos h0, ← e1, ← e0, e]
theorem keyH_ne (s : List UInt8) {i : Nat} (hi : i < 4) : (keyH s i).next ≠ ((2 ^ (2 * (keyH s i).height.toNat) : Nat) : Int) := by
  show (i : Int) ≠ ((4 : Nat) : Int)
  omega
theorem keyH_sign (s : List UInt8) {i : Nat} (hi : i < 4) {msg : List UInt8} (hm : msg.length ≤ 65536) : (hsignV (keyH s i) msg).2 = (keyH s (i + 1), 0) := by
  rw [hsign_ok (keyH_may s (Nat.le_of_lt hi)) (keyH_ne s hi) hm]
  rfl
theorem keyH_spent (s : List UInt8) {msg : List UInt8} (hm : msg.length ≤ 65536) : hsignV (keyH s 4) msg = ([], LKey0, 601) := hsign_spent (keyH_may s (Nat.le_refl _)) rfl hm
theorem keyH_back (s : List UInt8) {i : Nat} (hi : i < 4) {msg : List UInt8} (hm : msg.length ≤ 65536) : hverifyV (hpubV (keyH s 0)).1 msg (hsignV (keyH s i) msg).1 = 0 := by
  have := hss_back (keyH_may s (Nat.le_of_lt hi)) (keyH_ne s hi) hm
  rwa [keyH_pub s (Nat.le_of_lt hi)] at this
theorem keyH_left (s : List UInt8) {i : Nat} (hi : i ≤ 4) : hleftV (keyH s i) = 4 - (i : Int) := by
  rw [hleftV, if_pos (keyH_may s hi)]; rfl
/-- The eighth byte tells the upper index. -/
theorem keyH_at (s : List UInt8) {i : Nat} (hi : i < 4) {msg : List UInt8} (hm : msg.length ≤ 65536) : ∃ t, (hsignV (keyH s i) msg).1 = beB 1 4 ++ (beB (i / 2) 4 ++ t) := by
  have hB := keyH_may s (Nat.le_of_lt hi)
  have hl : ∃ t, (lsignV (upV (keyH s i)) (lpubV (lowV (keyH s i))).1).1 = beB (i / 2) 4 ++ t := by
    have hu := up_may hB
    have hpl := lpub_length (low_may hB)
    have hn : (upV (keyH s i)).next = ((i / 2 : Nat) : Int) := by rw [keyH_up]
    have hh : (upV (keyH s i)).height = ((1 : Nat) : Int) := rfl
    rw [lsignV, if_pos ⟨hu, by omega⟩, hn, hh, Int.toNat_natCast, Int.toNat_natCast, if_neg (by omega)]
    exact ⟨_, by simp only [List.append_assoc]; rfl⟩
  obtain ⟨t, ht⟩ := hl
  rw [hsignV, if_pos ⟨hB, hm⟩, if_neg (keyH_ne s hi), ht]
  exact ⟨_, by simp only [List.append_assoc]; rfl⟩

theorem lsign_three {k : LKey} (hB : lmayB k = true) (ho : k.ots = 3) (hh : k.height = 1) {q : Nat} (hq : k.next = (q : Int)) (hlt : q < 2) {msg : List UInt8} (hm : msg.length ≤ 65536) : ∃ t, (lsignV k msg).1 = beB q 4 ++ t ∧ t.length = 2216 := by
  obtain ⟨o, h', q', ho', ho2, hh', h1, h5, hid, hseed, hq', hqm⟩ := lmay_parts hB
  obtain rfl : q' = q := by omega
  have hpb : placeB k.id (q' : Int) = true := decide_eq_true ⟨hid, by omega, by omega⟩
  have hsl : (signV k.ots k.id q' k.seed msg).1.length = 2180 := by
    rw [signV, ho, if_pos ⟨rfl, hpb, hseed, hm⟩]
    show (otsSignV 3 4 67 4 _ _ _).length = 2180
    rw [otsSign_length]
  have hne : ¬ ((q' : Int) = ((2 ^ 1 : Nat) : Int)) := by omega
  rw [lsignV, if_pos ⟨hB, hm⟩, hq, hh, Int.toNat_natCast, show Int.toNat 1 = 1 from rfl, if_neg hne]
  refine ⟨_, by simp only [List.append_assoc]; rfl, ?_⟩
  simp only [List.length_append, beB_length, hsl]
  rw [sideV_length (fun i => nodeN_length _ _ _ _)]
/-- A law's signature, part by part. -/
theorem keyH_sig (s : List UInt8) {i : Nat} (hi : i < 4) {msg : List UInt8} (hm : msg.length ≤ 65536) : ∃ P L t1 t2, (hpubV (keyH s i)).1 = beB 2 4 ++ P ∧ P.length = 56 ∧ L.length = 56 ∧ t1.length = 2216 ∧ t2.length = 2216 ∧
    (hsignV (keyH s i) msg).1 = beB 1 4 ++ ((beB (i / 2) 4 ++ t1) ++ (L ++ (beB (i % 2) 4 ++ t2))) ∧ verifyV P L (beB (i / 2) 4 ++ t1) = 0 ∧ verifyV L msg (beB (i % 2) 4 ++ t2) = 0 := by
  have hB := keyH_may s (Nat.le_of_lt hi)
  have hu := up_may hB
  have hl := low_may hB
  have hLl := lpub_length hl
  have hun : (upV (keyH s i)).next = ((i / 2 : Nat) : Int) := by rw [keyH_up]
  have hln : (lowV (keyH s i)).next = ((i % 2 : Nat) : Int) := rfl
  obtain ⟨t1, h1, k1⟩ := lsign_three hu rfl rfl hun (by omega) (msg := (lpubV (lowV (keyH s i))).1) (by omega)
  obtain ⟨t2, h2, k2⟩ := lsign_three hl rfl rfl hln (by omega) hm
  have v1 := lms_back hu (q := i / 2) (h := 1) rfl hun (by omega) (msg := (lpubV (lowV (keyH s i))).1) (by omega)
  have v2 := lms_back hl (q := i % 2) (h := 1) rfl hln (by omega) hm
  rw [h1] at v1
  rw [h2] at v2
  refine ⟨_, _, t1, t2, by rw [hpubV, if_pos hB], lpub_length hu, hLl, k1, k2, ?_, v1, v2⟩
  rw [hsignV, if_pos ⟨hB, hm⟩, if_neg (keyH_ne s hi), h1, h2]
theorem hsign_big (k : LKey) {msg : List UInt8} (h : ¬ msg.length ≤ 65536) : hsignV k msg = ([], LKey0, 600) := by rw [hsignV, if_neg fun e => h e.2]

theorem verify_off {p : List UInt8} (msg t : List UInt8) (h : t.length ≠ pkSize (apartV p).1) : verifyV p msg t = 500 := by
  unfold verifyV
  split
  · rw [partsV, if_neg h, if_neg (by simp)]
  · rfl
/-- What a law's signature is asked with another end. -/
theorem keyH_end (s : List UInt8) {i : Nat} (hi : i < 4) {msg : List UInt8} (hm : msg.length ≤ 65536) (x : List UInt8) : ∃ P L S1 S2, (hpubV (keyH s i)).1 = beB 2 4 ++ P ∧ P.length = 56 ∧ (hsignV (keyH s i) msg).1 = beB 1 4 ++ (S1 ++ (L ++ S2)) ∧ L.length = 56 ∧ S1.length = 2220 ∧ S2.length = 2220 ∧
    ∀ T : List UInt8, T.length ≠ 2220 → hverifyV (beB 2 4 ++ P) x (beB 1 4 ++ (S1 ++ (L ++ T))) = 600 := by
  have hB := keyH_may s (Nat.le_of_lt hi)
  have hu := up_may hB
  have hl := low_may hB
  have hLl := lpub_length hl
  have hun : (upV (keyH s i)).next = ((i / 2 : Nat) : Int) := by rw [keyH_up]
  have hln : (lowV (keyH s i)).next = ((i % 2 : Nat) : Int) := rfl
  obtain ⟨t1, h1, k1⟩ := lsign_three hu rfl rfl hun (by omega) (msg := (lpubV (lowV (keyH s i))).1) (by omega)
  obtain ⟨t2, h2, k2⟩ := lsign_three hl rfl rfl hln (by omega) hm
  obtain ⟨ha, hs⟩ := lpub_apart hu
  obtain ⟨hb, hs2⟩ := lpub_apart hl
  have e1 := hs (i / 2) 1 (lpubV (lowV (keyH s i))).1 rfl hun (by omega) (by omega)
  have e2 := hs2 (i % 2) 1 msg rfl hln (by omega) hm
  have l1 : (lsignV (upV (keyH s i)) (lpubV (lowV (keyH s i))).1).1.length = 2220 := by rw [h1, List.length_append, beB_length, k1]
  have l2 : (lsignV (lowV (keyH s i)) msg).1.length = 2220 := by rw [h2, List.length_append, beB_length, k2]
  refine ⟨(lpubV (upV (keyH s i))).1, (lpubV (lowV (keyH s i))).1, _, _, by rw [hpubV, if_pos hB], lpub_length hu, by rw [hsignV, if_pos ⟨hB, hm⟩, if_neg (keyH_ne s hi)], hLl, l1, l2, fun T hT => ?_⟩
  rw [hverify_parts x (lpub_length hu) hLl ha hb e1, verify_off x T (by rw [← e2, l2]; exact hT), hbothV]
  split <;> rfl
end Go.Proofs.Ytcfbmbhkdicpfaa
