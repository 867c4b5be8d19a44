/- Chapter 6's awake: what is answered, in plain Lean. -/
import Derived.Test.YtcfbmbhkdicpfaaHssP
import Derived.Test.YtcfbmbhkdicpfaaHssC
import Derived.Test.YtcfbmbhkdicpfaaFill
namespace Go.Proofs.Ytcfbmbhkdicpfaa
open Go.RowKit

/-- A key of a law. -/
def keyH (s : List UInt8) (n : Nat) : LKey := ⟨3, 1, filledV (105 :: s) 16, filledV s 32, (n : Int)⟩
theorem keyH_may (s : List UInt8) {n : Nat} (hn : n ≤ 4) : hmayB (keyH s n) = true := by
  have h1 := filledV_length (105 :: s) 16
  have h2 := filledV_length s 32
  have h3 : (n : Int) ≤ 4 := by omega
  simp [hmayB, keyH, h1, h2, kindB, h3]
/-- The lower key of the law's key. -/
def hlowC : LKey := ⟨3, 1, beB hcID 16, beB hcS 32, 1⟩
theorem hlow_is : lowV (keyH [115] 3) = hlowC := by
  have e1 : (keyH [115] 3).id = [105, 115] ++ List.replicate 14 0 := by decide
  have e2 : (keyH [115] 3).seed = [115] ++ List.replicate 31 0 := by decide
  rw [lowV, e1, e2, show upN (keyH [115] 3) = 1 from rfl, hcLow.1, hcLow.2]
  rfl
theorem hlow_may : lmayB hlowC = true := by rw [← hlow_is]; exact low_may (keyH_may [115] (by decide))
theorem hc_pubF (q : Nat) (hq : q ≤ 1) : pubF hlowC q = otsPubV 4 67 (placeV (beB hcID 16) q) (beB hcS 32) := by
  have h1 : kindB 3 = true := rfl
  have h2 : placeB (beB hcID 16) (q : Int) = true := decide_eq_true ⟨beB_length _ _, by omega⟩
  have h3 : (beB hcS 32).length = 32 := beB_length _ _
  show (pubV 3 (beB hcID 16) (q : Int) (beB hcS 32)).1 = _
  rw [pubV, if_pos ⟨h1, h2, h3⟩]
  rfl
theorem hc_cand : (candV hlowC.id (1 : Nat) [120] (signV hlowC.ots hlowC.id (1 : Nat) hlowC.seed [109]).1).1 = otsCandV 4 67 4 (placeV (beB hcID 16) 1) [120] (otsSignV 3 4 67 4 (placeV (beB hcID 16) 1) (beB hcS 32) [109]) := by
  have h1 : kindB 3 = true := rfl
  have h2 : placeB (beB hcID 16) ((1 : Nat) : Int) = true := decide_eq_true ⟨beB_length _ _, by decide⟩
  have h3 : (beB hcS 32).length = 32 := beB_length _ _
  have hsv : (signV hlowC.ots hlowC.id (1 : Nat) hlowC.seed [109]).1 = otsSignV 3 4 67 4 (placeV (beB hcID 16) 1) (beB hcS 32) [109] := by
    show (signV 3 (beB hcID 16) (1 : Nat) (beB hcS 32) [109]).1 = _
    rw [signV, if_pos ⟨h1, h2, h3, by decide⟩]
    rfl
  have hl := otsSign_length 3 4 67 4 (placeV (beB hcID 16) 1) (beB hcS 32) [109]
  have h4 : n4 (otsSignV 3 4 67 4 (placeV (beB hcID 16) 1) (beB hcS 32) [109]) = 3 := by
    rw [otsSignV, List.append_assoc]; exact n4_be (by omega) _
  have hks : kindSV (otsSignV 3 4 67 4 (placeV (beB hcID 16) 1) (beB hcS 32) [109]) = (3, true) := by
    rw [kindSV, if_neg (by omega), k4V_n4 (by omega), h4, hl]; rfl
  have e3 : parV 3 = (4, 67, 4) := rfl
  rw [hsv, show hlowC.id = beB hcID 16 from rfl, candV, hks, if_pos ⟨rfl, h2, by decide⟩]
  simp only [e3, Int.toNat_natCast]
theorem hc_low : verifyV (lpubV hlowC).1 [120] (lsignV hlowC [109]).1 = 502 := by
  rw [verify_signed hlow_may (q := 1) (h := 1) rfl rfl (by decide) (by decide) (by decide), if_neg]
  intro h
  refine hcapart ?_
  have n3 : nodeN hlowC.id (pubF hlowC) (2 ^ 1) 3 = tipV (beB hcID 16) 3 (otsPubV 4 67 (placeV (beB hcID 16) 1) (beB hcS 32)) := by
    rw [nodeN_leaf (by decide), show 3 - 2 ^ 1 = 1 from rfl, hc_pubF 1 (by decide)]; rfl
  have n2 : nodeN hlowC.id (pubF hlowC) (2 ^ 1) 2 = tipV (beB hcID 16) 2 (otsPubV 4 67 (placeV (beB hcID 16) 0) (beB hcS 32)) := by
    rw [nodeN_leaf (by decide), show 2 - 2 ^ 1 = 0 from rfl, hc_pubF 0 (by decide)]; rfl
  have n1 : nodeN hlowC.id (pubF hlowC) (2 ^ 1) 1 = nodV (beB hcID 16) 1 (tipV (beB hcID 16) 2 (otsPubV 4 67 (placeV (beB hcID 16) 0) (beB hcS 32))) (tipV (beB hcID 16) 3 (otsPubV 4 67 (placeV (beB hcID 16) 1) (beB hcS 32))) := by
    rw [nodeN_in (by decide) (by decide), show 2 * 1 = 2 from rfl, show 2 + 1 = 3 from rfl, n2, n3]; rfl
  rw [← n1, ← h, climbV, climbV]
  rw [show (2 ^ 1 + 1) / 2 ^ 0 = 3 from rfl, if_neg (by decide), show (2 ^ 1 + 1) / 2 ^ (0 + 1) = 1 from rfl, show 2 ^ 1 + 1 = 3 from rfl]
  have hs := sideV_at (nodeN hlowC.id (pubF hlowC) (2 ^ 1)) (fun i => nodeN_length _ _ _ _) 3 1 0 [] (by decide)
  rw [List.append_nil, show (3 / 2 ^ 0) ^^^ 1 = 2 from rfl, n2] at hs
  rw [hs, hc_cand]
  rfl
theorem hc_verify : hverifyV (hpubV (keyH [115] 3)).1 [120] (hsignV (keyH [115] 3) [109]).1 = 602 := by
  rw [hverify_signed (keyH_may [115] (by decide)) (by decide) (by decide), hlow_is, hc_low]
  rfl
theorem hverify_none (msg sign : List UInt8) : hverifyV [] msg sign = 600 := by
  rw [hverifyV, if_neg (fun h => by have := h.1; simp at this)]
end Go.Proofs.Ytcfbmbhkdicpfaa
