/- Chapter 6: signatures of two levels: the plain law. -/
import Derived.Test.YtcfbmbhkdicpfaaLmsG
import Derived.Test.YtcfbmbhkdicpfaaTag2
namespace Go.Proofs.Ytcfbmbhkdicpfaa
open Go.RowKit

/-- May a key of two levels be? -/
def hmayB (k : LKey) : Bool := kindB k.ots && decide (1 ≤ k.height) && decide (k.height ≤ 5) && decide (k.id.length = 16) && decide (k.seed.length = 32) && decide (0 ≤ k.next) && decide (k.next ≤ 2 ^ (2 * k.height.toNat))
theorem hmay_parts {k : LKey} (h : hmayB k = true) : ∃ o ht n : Nat, k.ots = (o : Int) ∧ (o = 3 ∨ o = 4) ∧ k.height = (ht : Int) ∧ 1 ≤ ht ∧ ht ≤ 5 ∧ k.id.length = 16 ∧ k.seed.length = 32 ∧ k.next = (n : Int) ∧ n ≤ 2 ^ (2 * ht) := by
  simp only [hmayB, Bool.and_eq_true, decide_eq_true_eq] at h
  obtain ⟨⟨⟨⟨⟨⟨h1, h2⟩, h3⟩, h4⟩, h5⟩, h6⟩, h7⟩ := h
  have hn : k.next.toNat ≤ 2 ^ (2 * k.height.toNat) := by
    have e1 : ((k.next.toNat : Nat) : Int) = k.next := by omega
    have e2 : ((k.next.toNat : Nat) : Int) ≤ ((2 ^ (2 * k.height.toNat) : Nat) : Int) := by
      rw [Int.natCast_pow, e1]
      exact h7
    omega
  rcases kindB_parts h1 with e | e
  · exact ⟨3, k.height.toNat, k.next.toNat, e, Or.inl rfl, by omega, by omega, by omega, h4, h5, by omega, hn⟩
  · exact ⟨4, k.height.toNat, k.next.toNat, e, Or.inr rfl, by omega, by omega, by omega, h4, h5, by omega, hn⟩
/-- The upper key's index; the keys of both levels. -/
def upN (k : LKey) : Nat := k.next.toNat / 2 ^ k.height.toNat
def upV (k : LKey) : LKey := { k with next := (upN k : Int) }
def lowV (k : LKey) : LKey := ⟨k.ots, k.height, (tagV 2 [k.id, k.seed, beB (upN k) 4]).take 16, tagV 3 [k.id, k.seed, beB (upN k) 4], ((k.next.toNat % 2 ^ k.height.toNat : Nat) : Int)⟩
theorem lmay_of {k : LKey} {o ht n : Nat} (h1 : k.ots = (o : Int)) (h2 : o = 3 ∨ o = 4) (h3 : k.height = (ht : Int)) (h4 : 1 ≤ ht) (h5 : ht ≤ 5) (h6 : k.id.length = 16) (h7 : k.seed.length = 32) (h8 : k.next = (n : Int)) (h9 : n ≤ 2 ^ ht) : lmayB k = true := by
  have hk : kindB k.ots = true := by rw [h1]; rcases h2 with rfl | rfl <;> rfl
  have hn : (n : Int) ≤ (2 : Int) ^ ht := by
    have e2 : ((n : Nat) : Int) ≤ ((2 ^ ht : Nat) : Int) := by omega
    rwa [Int.natCast_pow] at e2
  simp only [lmayB, hk, h3, h6, h7, h8, Int.toNat_natCast, Bool.true_and, Bool.and_eq_true, decide_eq_true_eq]
  exact ⟨⟨⟨⟨⟨by omega, by omega⟩, trivial⟩, trivial⟩, by omega⟩, hn⟩
theorem upN_le {n h : Nat} (hn : n ≤ 2 ^ (2 * h)) : n / 2 ^ h ≤ 2 ^ h := by
  rw [Nat.div_le_iff_le_mul_add_pred (Nat.two_pow_pos h)]
  have : 2 ^ (2 * h) = 2 ^ h * 2 ^ h := by rw [← Nat.pow_add]; congr 1; omega
  omega
theorem upN_lt {n h : Nat} (hn : n < 2 ^ (2 * h)) : n / 2 ^ h < 2 ^ h := by
  rw [Nat.div_lt_iff_lt_mul (Nat.two_pow_pos h), ← Nat.pow_add]
  rwa [show h + h = 2 * h by omega]
theorem tagV_length (t : Nat) (ps : List (List UInt8)) : (tagV t ps).length = 32 := shaV_length _
theorem up_may {k : LKey} (h : hmayB k = true) : lmayB (upV k) = true := by
  obtain ⟨o, ht, n, h1, h2, h3, h4, h5, h6, h7, h8, h9⟩ := hmay_parts h
  refine lmay_of (n := n / 2 ^ ht) h1 h2 h3 h4 h5 h6 h7 ?_ (upN_le h9)
  show ((upN k : Nat) : Int) = _
  rw [upN, h3, h8]; rfl
theorem low_may {k : LKey} (h : hmayB k = true) : lmayB (lowV k) = true := by
  obtain ⟨o, ht, n, h1, h2, h3, h4, h5, h6, h7, h8, h9⟩ := hmay_parts h
  refine lmay_of (k := lowV k) (n := n % 2 ^ ht) h1 h2 h3 h4 h5 ?_ (tagV_length _ _) ?_ (Nat.le_of_lt (Nat.mod_lt _ (Nat.two_pow_pos _)))
  · show (List.take 16 _).length = 16
    rw [List.length_take, tagV_length]; rfl
  · show (((k.next.toNat % 2 ^ k.height.toNat : Nat)) : Int) = _
    rw [h3, h8]; rfl
def hpubV (k : LKey) : List UInt8 × Int := if hmayB k = true then (beB 2 4 ++ (lpubV (upV k)).1, 0) else ([], 600)
def hleftV (k : LKey) : Int := if hmayB k = true then 2 ^ (2 * k.height.toNat) - k.next else 0
def hsignV (k : LKey) (msg : List UInt8) : List UInt8 × LKey × Int :=
  if hmayB k = true ∧ msg.length ≤ 65536 then
    if k.next = ((2 ^ (2 * k.height.toNat) : Nat) : Int) then ([], LKey0, 601)
    else (beB 1 4 ++ ((lsignV (upV k) (lpubV (lowV k)).1).1 ++ ((lpubV (lowV k)).1 ++ (lsignV (lowV k) msg).1)), { k with next := k.next + 1 }, 0)
  else ([], LKey0, 600)
/-- What is asked of both levels. -/
def hbothV (a b : Int) : Int := if a = 500 then 600 else if b = 500 then 600 else if a = 502 ∨ b = 502 then 602 else 0
def hverifyV (pub msg sign : List UInt8) : Int :=
  if pub.length = 60 ∧ pub.take 4 = beB 2 4 ∧ 4 ≤ sign.length ∧ sign.take 4 = beB 1 4 ∧ (apartV (pub.drop 4)).2 = true ∧ pkSize (apartV (pub.drop 4)).1 + 60 ≤ sign.length ∧ (apartV ((sign.drop (4 + pkSize (apartV (pub.drop 4)).1)).take 56)).2 = true then
    hbothV (verifyV (pub.drop 4) ((sign.drop (4 + pkSize (apartV (pub.drop 4)).1)).take 56) ((sign.drop 4).take (pkSize (apartV (pub.drop 4)).1)))
      (verifyV ((sign.drop (4 + pkSize (apartV (pub.drop 4)).1)).take 56) msg (sign.drop (60 + pkSize (apartV (pub.drop 4)).1)))
  else 600
/-- A key's public part is taken apart; its signatures are as long as it says. -/
theorem lpub_apart {k : LKey} (hB : lmayB k = true) : (apartV (lpubV k).1).2 = true ∧ ∀ (q h : Nat) (msg : List UInt8), k.height = (h : Int) → k.next = (q : Int) → q < 2 ^ h → msg.length ≤ 65536 → (lsignV k msg).1.length = pkSize (apartV (lpubV k).1).1 := by
  obtain ⟨o, h', q', ho, ho2, hh', h1, h5, hid, hseed, hq', hqm⟩ := lmay_parts hB
  obtain ⟨t, htv, ht2⟩ := typeV_nat h' h5
  have hN : ∀ i, (nodeN k.id (pubF k) (2 ^ h') i).length = 32 := fun i => nodeN_length _ _ _ _
  have hpub : (lpubV k).1 = beB t 4 ++ beB o 4 ++ k.id ++ nodeN k.id (pubF k) (2 ^ h') 1 := by
    rw [lpubV, if_pos hB, hh', htv, ho]; rfl
  rw [hpub, apart_public h1 h5 ho2 htv ht2 hid (hN 1)]
  refine ⟨rfl, fun q h msg hh hq hlt hm => ?_⟩
  obtain rfl : h' = h := by omega
  obtain rfl : q' = q := by omega
  have h32 : 2 ^ h' ≤ 32 := by rcases (by omega : h' = 1 ∨ h' = 2 ∨ h' = 3 ∨ h' = 4 ∨ h' = 5) with rfl | rfl | rfl | rfl | rfl <;> decide
  have hkb : kindB (o : Int) = true := by rcases ho2 with rfl | rfl <;> rfl
  have hpb : placeB k.id (q' : Int) = true := decide_eq_true ⟨hid, by omega, by omega⟩
  have hsv : (signV k.ots k.id q' k.seed msg).1 = otsSignV o (parV (o : Int)).1 (parV (o : Int)).2.1 (parV (o : Int)).2.2 (placeV k.id q') k.seed msg := by
    rw [signV, ho, if_pos ⟨hkb, hpb, hseed, hm⟩]; rfl
  have hsl : (signV k.ots k.id q' k.seed msg).1.length = otsSize (o : Int) := by rw [hsv, otsSign_length]; rfl
  have hne : ¬ ((q' : Int) = ((2 ^ h' : Nat) : Int)) := by omega
  rw [lsignV, if_pos ⟨hB, hm⟩, hq', hh', Int.toNat_natCast, if_neg hne]
  simp only [List.length_append, beB_length, hsl]
  rw [sideV_length (fun i => nodeN_length _ _ _ _)]
  show 4 + otsSize (o : Int) + 4 + 32 * h' = 8 + otsSize (o : Int) + 32 * h'
  omega
/-- What is asked of a signature by its parts. -/
theorem hverify_parts {P L S T : List UInt8} (msg : List UInt8) (hP : P.length = 56) (hL : L.length = 56) (hPa : (apartV P).2 = true) (hLa : (apartV L).2 = true) (hS : S.length = pkSize (apartV P).1) : hverifyV (beB 2 4 ++ P) msg (beB 1 4 ++ (S ++ (L ++ T))) = hbothV (verifyV P L S) (verifyV L msg T) := by
  have b2 : (beB 2 4).length = 4 := beB_length _ _
  have b1 : (beB 1 4).length = 4 := beB_length _ _
  have d2 : (beB 2 4 ++ P).drop 4 = P := by have := drop_be 2 P 0; simpa using this
  have d1 : ∀ j, (beB 1 4 ++ (S ++ (L ++ T))).drop (4 + j) = (S ++ (L ++ T)).drop j := fun j => drop_be 1 _ j
  have dS : (beB 1 4 ++ (S ++ (L ++ T))).drop (4 + pkSize (apartV P).1) = L ++ T := by rw [d1, ← hS, List.drop_append_of_le_length (Nat.le_refl _), List.drop_of_length_le (Nat.le_refl _), List.nil_append]
  have d60 : (beB 1 4 ++ (S ++ (L ++ T))).drop (60 + pkSize (apartV P).1) = T := by
    rw [show 60 + pkSize (apartV P).1 = 4 + (pkSize (apartV P).1 + 56) by omega, d1, ← List.drop_drop, ← hS, List.drop_append_of_le_length (Nat.le_refl _), List.drop_of_length_le (Nat.le_refl _), List.nil_append, ← hL, List.drop_append_of_le_length (Nat.le_refl _), List.drop_of_length_le (Nat.le_refl _), List.nil_append]
  have t1 : (L ++ T).take 56 = L := by rw [← hL, List.take_append_of_le_length (Nat.le_refl _), List.take_length]
  have t2 : ((beB 1 4 ++ (S ++ (L ++ T))).drop 4).take (pkSize (apartV P).1) = S := by
    have := d1 0
    rw [Nat.add_zero, List.drop_zero] at this
    rw [this, ← hS, List.take_append_of_le_length (Nat.le_refl _), List.take_length]
  have t3 : ∀ (x : Nat) (l : List UInt8), (beB x 4 ++ l).take 4 = beB x 4 := fun x l => by
    have : (beB x 4).length = 4 := beB_length _ _
    rw [List.take_append_of_le_length (by omega), List.take_of_length_le (by omega)]
  rw [hverifyV, d2, dS, t1, t2, d60, if_pos ⟨by simp [b2, hP], t3 _ _, by simp [b1], t3 _ _, hPa, by simp [b1, hS, hL]; omega, hLa⟩]
/-- What a key signs, asked of any message. -/
theorem hverify_signed {k : LKey} (hB : hmayB k = true) (hlt : k.next ≠ ((2 ^ (2 * k.height.toNat) : Nat) : Int)) {msg x : List UInt8} (hm : msg.length ≤ 65536) : hverifyV (hpubV k).1 x (hsignV k msg).1 = hbothV 0 (verifyV (lpubV (lowV k)).1 x (lsignV (lowV k) msg).1) := by
  obtain ⟨o, ht, n, h1, h2, h3, h4, h5, h6, h7, h8, h9⟩ := hmay_parts hB
  have hn : n < 2 ^ (2 * ht) := by
    rw [h3, h8, Int.toNat_natCast] at hlt
    omega
  have hu := up_may hB
  have hl := low_may hB
  have huq : (upV k).next = ((n / 2 ^ ht : Nat) : Int) := by show ((upN k : Nat) : Int) = _; rw [upN, h3, h8]; rfl
  have hLl := lpub_length hl
  obtain ⟨hPa, hS⟩ := lpub_apart hu
  obtain ⟨hLa, _⟩ := lpub_apart hl
  rw [hpubV, if_pos hB, hsignV, if_pos ⟨hB, hm⟩, if_neg hlt]
  rw [hverify_parts x (lpub_length hu) hLl hPa hLa (hS (n / 2 ^ ht) ht _ h3 huq (upN_lt hn) (by omega)), lms_back hu (q := n / 2 ^ ht) (h := ht) h3 huq (upN_lt hn) (by omega)]
theorem hss_back {k : LKey} (hB : hmayB k = true) (hlt : k.next ≠ ((2 ^ (2 * k.height.toNat) : Nat) : Int)) {msg : List UInt8} (hm : msg.length ≤ 65536) : hverifyV (hpubV k).1 msg (hsignV k msg).1 = 0 := by
  obtain ⟨o, ht, n, h1, h2, h3, h4, h5, h6, h7, h8, h9⟩ := hmay_parts hB
  rw [hverify_signed hB hlt hm, lms_back (low_may hB) (q := n % 2 ^ ht) (h := ht) h3 (by show (((k.next.toNat % 2 ^ k.height.toNat : Nat)) : Int) = _; rw [h3, h8]; rfl) (Nat.mod_lt _ (Nat.two_pow_pos _)) hm]
  rfl
end Go.Proofs.Ytcfbmbhkdicpfaa
