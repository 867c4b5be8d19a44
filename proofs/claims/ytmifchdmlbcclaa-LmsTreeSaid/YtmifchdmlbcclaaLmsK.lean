/- Chapter 5: what was signed is taken: the plain law. Chapter 5's laws: bytes filled, a key. Chapter 5's awake: what is answered, in plain Lean. Chapter 5's awake. Chapter 5: any signature asked, of the program and of the reference. -/
import Derived.Test.YtmifchdmlbcclaaLmsG
import Derived.Test.YtmifchdmlbcclaaOtsO
import Derived.Test.YtmifchdmlbcclaaLms8
import Derived.Test.YtmifchdmlbcclaaLmsC
namespace Go.Proofs.Ytmifchdmlbcclaa
open Go.RowKit

theorem numB_be4 {x : Nat} (h : x < 4294967296) : numB (beB x 4) = x := by
  simp only [beB, numB, List.foldl_cons, List.foldl_nil, UInt8.toNat_ofNat', Nat.shiftRight_eq_div_pow]
  simp only [Nat.reduceMul, Nat.reducePow]
  omega
theorem n4_be {x : Nat} (h : x < 4294967296) (t : List UInt8) : n4 (beB x 4 ++ t) = x := by
  rw [n4, List.take_append_of_le_length (by rw [beB_length]; exact Nat.le_refl _), List.take_of_length_le (by rw [beB_length]; exact Nat.le_refl _), numB_be4 h]
theorem drop_be (x : Nat) (t : List UInt8) (k : Nat) : (beB x 4 ++ t).drop (4 + k) = t.drop k := by
  have h4 : (beB x 4).length = 4 := beB_length _ _
  have : ∀ l : List UInt8, l.length = 4 → (l ++ t).drop (4 + k) = t.drop k := fun l hl => by
    rw [← hl, List.drop_length_add_append]
  exact this _ h4
theorem hgt_type {h t : Nat} (h1 : 1 ≤ h) (h5 : h ≤ 5) (ht : typeV (h : Int) = (t : Int)) : hgtV (t : Int) = h := by
  rw [← ht]; exact hgtV_typeV h h1 h5
/-- A public key is taken apart. -/
theorem apart_public {h o t : Nat} (h1 : 1 ≤ h) (h5 : h ≤ 5) (ho : o = 3 ∨ o = 4) (ht : typeV (h : Int) = (t : Int)) (ht2 : t < 4294967296) {id root : List UInt8} (hid : id.length = 16) (hr : root.length = 32) :
    apartV (beB t 4 ++ beB o 4 ++ id ++ root) = (⟨h, (o : Int), id, root⟩, true) := by
  have e1 : beB t 4 ++ beB o 4 ++ id ++ root = beB t 4 ++ (beB o 4 ++ (id ++ root)) := by simp
  have hl : (beB t 4 ++ (beB o 4 ++ (id ++ root))).length = 56 := by simp [beB_length, hid, hr]
  have d4 : (beB t 4 ++ (beB o 4 ++ (id ++ root))).drop 4 = beB o 4 ++ (id ++ root) := by have := drop_be t (beB o 4 ++ (id ++ root)) 0; simpa using this
  have d8 : (beB t 4 ++ (beB o 4 ++ (id ++ root))).drop 8 = id ++ root := by
    rw [show 8 = 4 + 4 from rfl, drop_be]; have := drop_be o (id ++ root) 0; simpa using this
  have d24 : (beB t 4 ++ (beB o 4 ++ (id ++ root))).drop 24 = root := by
    rw [show 24 = 8 + 16 from rfl, ← List.drop_drop, d8, List.drop_append_of_le_length (by omega), List.drop_of_length_le (by omega), List.nil_append]
  have hk : kindB (o : Int) = true := by rcases ho with rfl | rfl <;> rfl
  rw [e1, apartV, if_pos hl, d4, d8, d24, n4_be ht2, n4_be (by omega), hgt_type h1 h5 ht, hk, List.take_append_of_le_length (by omega), List.take_of_length_le (by omega), decide_eq_true (by omega)]
  rfl
theorem otsSign_length (kind w p ls : Nat) (head seed msg : List UInt8) : (otsSignV kind w p ls head seed msg).length = 36 + 32 * p := by
  simp only [otsSignV, List.length_append, beB_length]
  rw [chainsV_length _ _ _ _ _ fun i _ => startV_length _ _ _, show (otsCV head seed).length = 32 from shaV_length _]
/-- A signature is taken apart. -/
theorem parts_signature {h o t q : Nat} (ho : o = 3 ∨ o = 4) (ht : typeV (h : Int) = (t : Int)) (ht2 : t < 4294967296) (hq : q < 2 ^ h) (hq2 : q < 4294967296) {id root sg path : List UInt8} (hs : sg.length = otsSize (o : Int)) (hk : n4 sg = o) (hp : path.length = 32 * h) :
    partsV ⟨h, (o : Int), id, root⟩ (beB q 4 ++ sg ++ beB t 4 ++ path) = (⟨q, sg, path⟩, true) := by
  have hkb : kindB (o : Int) = true := by rcases ho with rfl | rfl <;> rfl
  have h36 : 36 ≤ otsSize (o : Int) := by rw [otsSize]; omega
  have e1 : beB q 4 ++ sg ++ beB t 4 ++ path = beB q 4 ++ (sg ++ (beB t 4 ++ path)) := by simp
  have hl : (beB q 4 ++ (sg ++ (beB t 4 ++ path))).length = pkSize ⟨h, (o : Int), id, root⟩ := by
    show _ = 8 + otsSize (o : Int) + 32 * h
    simp [beB_length, hs, hp]; omega
  have d4 : (beB q 4 ++ (sg ++ (beB t 4 ++ path))).drop 4 = sg ++ (beB t 4 ++ path) := by have := drop_be q (sg ++ (beB t 4 ++ path)) 0; simpa using this
  have dn : (beB q 4 ++ (sg ++ (beB t 4 ++ path))).drop (4 + otsSize (o : Int)) = beB t 4 ++ path := by
    rw [drop_be, ← hs, List.drop_append_of_le_length (Nat.le_refl _), List.drop_of_length_le (Nat.le_refl _), List.nil_append]
  have d8 : (beB q 4 ++ (sg ++ (beB t 4 ++ path))).drop (8 + otsSize (o : Int)) = path := by
    rw [show 8 + otsSize (o : Int) = 4 + otsSize (o : Int) + 4 by omega, ← List.drop_drop, dn]; have := drop_be t path 0; simpa using this
  have tk : (sg ++ (beB t 4 ++ path)).take (otsSize (o : Int)) = sg := by rw [← hs, List.take_append_of_le_length (Nat.le_refl _), List.take_length]
  have n4s : n4 (sg ++ (beB t 4 ++ path)) = o := by
    rw [← hk]; unfold n4; rw [List.take_append_of_le_length (by omega)]
  have h2 := parts_ref (k := ⟨h, (o : Int), id, root⟩) (s := beB q 4 ++ (sg ++ (beB t 4 ++ path))) hkb hl
  simp only at h2
  rw [d4, n4s, dn, n4_be ht2, n4_be hq2, ht] at h2
  rw [e1]
  apply Prod.ext
  · rw [partsV, if_pos hl]
    simp only
    rw [n4_be hq2, d4, tk, d8]
  · rw [h2]; simp [hq]
theorem sideV_at (N : Nat → List UInt8) (hN : ∀ i, (N i).length = 32) (r : Nat) : ∀ (j i : Nat) (rest : List UInt8), i < j → (((sideV N r j) ++ rest).drop (32 * i)).take 32 = N ((r / 2 ^ i) ^^^ 1)
  | 0, _, _, h => by omega
  | j + 1, i, rest, h => by
    have hl := sideV_length hN r j
    have hs := hN ((r / 2 ^ j) ^^^ 1)
    simp only [sideV, List.append_assoc]
    by_cases he : i = j
    · subst he
      rw [List.drop_append_of_le_length (by omega), List.drop_of_length_le (by omega), List.nil_append, List.take_append_of_le_length (by omega), List.take_of_length_le (by omega)]
    · exact sideV_at N hN r j i _ (by omega)
/-- The climb follows the nodes. -/
theorem climb_nodes (id : List UInt8) (pub : Nat → List UInt8) {m h r : Nat} (hw : WayUp r h (2 * m)) : ∀ i, i ≤ h → climbV id (sideV (nodeN id pub m) r h) r (nodeN id pub m r) i = nodeN id pub m (r / 2 ^ i)
  | 0, _ => by rw [climbV, Nat.pow_zero, Nat.div_one]
  | i + 1, hi => by
    have hN : ∀ i, (nodeN id pub m i).length = 32 := fun i => nodeN_length _ _ _ _
    have hs := sideV_at (nodeN id pub m) hN r h i [] (by omega)
    rw [List.append_nil] at hs
    obtain ⟨h1, h2⟩ := hw.low i (by omega)
    have hb := hw.big
    have hx := xor1_lt (r := r / 2 ^ i) (by omega)
    have hd : r / 2 ^ (i + 1) = r / 2 ^ i / 2 := by rw [Nat.div_div_eq_div_mul, Nat.pow_succ]
    rw [climbV, hs, climb_nodes id pub hw i (by omega), hd, hx]
    generalize r / 2 ^ i = s at *
    rw [nodeN_in (r := s / 2) (by omega) (by omega)]
    by_cases he : s % 2 = 0
    · rw [if_pos he, if_pos he, show 2 * (s / 2) = s by omega]
    · rw [if_neg he, if_neg he, show 2 * (s / 2) = s - 1 by omega, show s - 1 + 1 = s by omega]
theorem otsSize_le (o : Int) : 36 ≤ otsSize o ∧ otsSize o ≤ 2180 := by have := parV_le o; rw [otsSize]; omega
/-- What a key signs with its leaf q, asked of any message. -/
theorem verify_signed {k : LKey} (hB : lmayB k = true) {q h : Nat} (hh : k.height = (h : Int)) (hq : k.next = (q : Int)) (hlt : q < 2 ^ h) {msg x : List UInt8} (hm : msg.length ≤ 65536) (hx : x.length ≤ 65536) :
    verifyV (lpubV k).1 x (lsignV k msg).1 = if climbV k.id (sideV (nodeN k.id (pubF k) (2 ^ h)) (2 ^ h + q) h) (2 ^ h + q) (tipV k.id (2 ^ h + q) (candV k.id q x (signV k.ots k.id q k.seed msg).1).1) h = nodeN k.id (pubF k) (2 ^ h) 1 then 0 else 502 := by
  obtain ⟨o, h', q', ho, ho2, hh', h1, h5, hid, hseed, hq', hqm⟩ := lmay_parts hB
  obtain rfl : h' = h := by omega
  obtain rfl : q' = q := by omega
  obtain ⟨t, htv, ht2⟩ := typeV_nat h' h5
  have h32 : 2 ^ h' ≤ 32 := by rcases (by omega : h' = 1 ∨ h' = 2 ∨ h' = 3 ∨ h' = 4 ∨ h' = 5) with rfl | rfl | rfl | rfl | rfl <;> decide
  have hkb : kindB (o : Int) = true := by rcases ho2 with rfl | rfl <;> rfl
  have hpb : placeB k.id (q' : Int) = true := decide_eq_true ⟨hid, by omega⟩
  have hsv : (signV k.ots k.id q' k.seed msg).1 = otsSignV o (parV (o : Int)).1 (parV (o : Int)).2.1 (parV (o : Int)).2.2 (placeV k.id q') k.seed msg := by
    rw [signV, ho, if_pos ⟨hkb, hpb, hseed, hm⟩]; rfl
  have hsl : (signV k.ots k.id q' k.seed msg).1.length = otsSize (o : Int) := by rw [hsv, otsSign_length]; rfl
  have hs4 : n4 (signV k.ots k.id q' k.seed msg).1 = o := by
    rw [hsv, otsSignV, List.append_assoc]; exact n4_be (by omega) _
  have hpub : (lpubV k).1 = beB t 4 ++ beB o 4 ++ k.id ++ nodeN k.id (pubF k) (2 ^ h') 1 := by
    rw [lpubV, if_pos hB, hh, htv, ho]; rfl
  have hsg : (lsignV k msg).1 = beB q' 4 ++ (signV k.ots k.id q' k.seed msg).1 ++ beB t 4 ++ sideV (nodeN k.id (pubF k) (2 ^ h')) (2 ^ h' + q') h' := by
    have hne : ¬ ((q' : Int) = ((2 ^ h' : Nat) : Int)) := by omega
    rw [lsignV, if_pos ⟨hB, hm⟩, hq, hh, Int.toNat_natCast, if_neg hne, htv]; rfl
  have hN : ∀ i, (nodeN k.id (pubF k) (2 ^ h') i).length = 32 := fun i => nodeN_length _ _ _ _
  rw [verifyV, hpub, hsg, apart_public h1 h5 ho2 htv ht2 hid (hN 1), if_pos rfl]
  simp only
  rw [parts_signature ho2 htv ht2 hlt (by omega) hsl hs4 (sideV_length hN _ _), if_pos ⟨rfl, hx⟩]
theorem cand_signed {k : LKey} (hB : lmayB k = true) {q : Nat} (hq4 : q ≤ 4294967295) {msg : List UInt8} (hm : msg.length ≤ 65536) : (candV k.id q msg (signV k.ots k.id q k.seed msg).1).1 = pubF k q := by
  obtain ⟨o, h', q', ho, ho2, hh', h1, h5, hid, hseed, hq', hqm⟩ := lmay_parts hB
  have hkb : kindB (o : Int) = true := by rcases ho2 with rfl | rfl <;> rfl
  have hpb : placeB k.id (q : Int) = true := decide_eq_true ⟨hid, by omega⟩
  have hsv : (signV k.ots k.id q k.seed msg).1 = otsSignV o (parV (o : Int)).1 (parV (o : Int)).2.1 (parV (o : Int)).2.2 (placeV k.id q) k.seed msg := by
    rw [signV, ho, if_pos ⟨hkb, hpb, hseed, hm⟩]; rfl
  have hks : kindSV (otsSignV o (parV (o : Int)).1 (parV (o : Int)).2.1 (parV (o : Int)).2.2 (placeV k.id q) k.seed msg) = ((o : Int), true) := by
    have h4 : n4 (otsSignV o (parV (o : Int)).1 (parV (o : Int)).2.1 (parV (o : Int)).2.2 (placeV k.id q) k.seed msg) = o := by
      rw [otsSignV, List.append_assoc]; exact n4_be (by omega) _
    have hl := otsSign_length o (parV (o : Int)).1 (parV (o : Int)).2.1 (parV (o : Int)).2.2 (placeV k.id q) k.seed msg
    rw [kindSV, if_neg (by omega), k4V_n4 (by omega), h4, hl, hkb]; simp
  rw [hsv, candV, hks, if_pos ⟨rfl, hpb, hm⟩]
  simp only
  rw [Int.toNat_natCast, ots_back, pubF, pubV, ho, if_pos ⟨hkb, hpb, hseed⟩]
  rfl
/-- What was signed is taken. -/
theorem lms_back {k : LKey} (hB : lmayB k = true) {q h : Nat} (hh : k.height = (h : Int)) (hq : k.next = (q : Int)) (hlt : q < 2 ^ h) {msg : List UInt8} (hm : msg.length ≤ 65536) : verifyV (lpubV k).1 msg (lsignV k msg).1 = 0 := by
  obtain ⟨o, h', q', ho, ho2, hh', h1, h5, hid, hseed, hq', hqm⟩ := lmay_parts hB
  obtain rfl : h' = h := by omega
  have h32 : 2 ^ h' ≤ 32 := by rcases (by omega : h' = 1 ∨ h' = 2 ∨ h' = 3 ∨ h' = 4 ∨ h' = 5) with rfl | rfl | rfl | rfl | rfl <;> decide
  have hw := wayUp_of h1 h5 hlt
  have hleaf : tipV k.id (2 ^ h' + q) (pubF k q) = nodeN k.id (pubF k) (2 ^ h') (2 ^ h' + q) := by
    rw [nodeN_leaf (by omega), Nat.add_sub_cancel_left]
  rw [verify_signed hB hh hq hlt hm hm, cand_signed hB (by omega) hm, hleaf, climb_nodes _ _ hw h' (Nat.le_refl _), hw.top, if_pos rfl]

set_option maxHeartbeats 1000000 in
theorem filled5_any (w : World) (s : List UInt8) (k : Nat) (hk : k ≤ 1000) (hs : s.length ≤ 1407374883512320) :
    Calls Try.prog 63 #[.string (bstr s), .int .i64 (k : Int)] w fun e w' => e = .returned (.string (bstr (filledV s k))) ∧ Pure w w' := by
  have hmk := make_u8S w k (by omega)
  have zs := bstr_size s
  go_enter Try.func63, Try.ntmps63
  go_wp2
  clear hmk
  go_loopw [6] (fun i wr => ∃ j : Nat, j ≤ k ∧ j ≤ s.length ∧ i = .int .i64 (j : Int) ∧ wr = w.alloc (.cells (u8s (fillCur s k j)).toArray 5)) (fun i _ => k - (intOf i).toNat)
  case atStart => exact ⟨0, by omega, by omega, rfl, by rw [fillCur_zero]⟩
  case round =>
    obtain ⟨j, hj, hjs, rfl, rfl⟩ := hrel
    by_cases hlt : j < k ∧ j < s.length
    · obtain ⟨h1, h2⟩ := hlt
      have q1 : (j : Int) < k := by omega
      have q2 : (j : Int) < s.length := by omega
      have q0 : (0 : Int) ≤ j := by omega
      have ix := fun W => index_bstr W s (j : Int) j rfl h2
      have i1 : IntKind.i64.wrap ((j : Int) + 1) = ((j + 1 : Nat) : Int) := by rw [IntWalk.i64_in _ (by omega)]; omega
      have hc : (w.alloc (.cells (u8s (fillCur s k j)).toArray 5)).cell? ⟨w.heap.size, j, none⟩ = some (u8 ((fillCur s k j).getD j 0)) := by
        rw [World.cell?_alloc_new]; simp [u8s, List.getD, fillCur_length s k j hj hjs, h1]
      go_wp2
      exact ⟨⟨j + 1, by omega, by omega, by first | rfl | trivial | go_num, by rw [← fillCur_set s k j h1 h2, List.getD_eq_getElem?_getD, List.getElem?_eq_getElem h2]; rfl⟩, by simp [intOf]; omega⟩
    · have hcv := conv_block (P := Try.prog) (w.alloc (.cells (u8s (filledV s k)).toArray 5)) 61 5 9 5 (0, 0) Try.underlying61 Try.underlying5 Try.underlying9 w.heap.size k (filledV s k) k (filledV_length _ _) (heap_alloc_new _ _)
      rw [fillCur_full s k j hj hjs hlt]
      by_cases h1 : j < k
      · have q1 : (j : Int) < k := by omega
        have q2 : ¬ ((j : Int) < s.length) := by omega
        go_wp2
        go_ret
        exact ⟨rfl, (Turn.refl _ _).alloc _⟩
      · have q1 : ¬ ((j : Int) < k) := by omega
        go_wp2
        go_ret
        exact ⟨rfl, (Turn.refl _ _).alloc _⟩

/-- A key of a law. -/
def keyV (s : List UInt8) (b : Nat) : LKey := ⟨3, ((1 + b : Nat) : Int), filledV (105 :: s) 16, filledV s 32, 0⟩
theorem keyV_may (s : List UInt8) {b : Nat} (hb : b < 2) : lmayB (keyV s b) = true := by
  have h1 := filledV_length (105 :: s) 16
  have h2 := filledV_length s 32
  rcases (by omega : b = 0 ∨ b = 1) with rfl | rfl <;> simp [lmayB, keyV, h1, h2, kindB]

set_option maxRecDepth 100000 in
set_option maxHeartbeats 4000000 in
theorem Key5_any (w : World) (s : List UInt8) (x : Int) (b : Nat) (hs : s.length ≤ 140737488351232) (hb : x % 2 = (b : Int)) : Calls Try.prog 29 #[.string (bstr s), .int .i64 x, .int .i64 0] w fun e w' =>
    e = .returned (.agg (lkC (keyV s b)).toArray) ∧ Pure w w' := by
  have hb2 : b < 2 := by omega
  obtain ⟨X, hX⟩ : ∃ X : Nat, IntKind.u64.wrap x = (X : Int) ∧ X % 2 = b ∧ X < 18446744073709551616 := by
    refine ⟨(x % 18446744073709551616).toNat, ?_, ?_, ?_⟩
    · rw [IntKind.wrap_u64]; omega
    · omega
    · omega
  obtain ⟨hX1, hX2, hX3⟩ := hX
  have hX4 : (X : Int) % 2 = (b : Int) := by omega
  have hf1 := fun W => filled5_any W (105 :: s) 16 (by omega) (by simp; omega)
  have hf2 := fun W => filled5_any W s 32 (by omega) (by omega)
  obtain ⟨S1, hS1⟩ : ∃ S1, S1 = 105 :: s := ⟨_, rfl⟩
  have hkv : keyV s b = ⟨3, ((1 + b : Nat) : Int), filledV S1 16, filledV s 32, 0⟩ := by rw [hS1]; rfl
  have ap : (⟨#[105]⟩ : ByteArray) ++ bstr s = bstr S1 := by rw [hS1]; exact bstr_app [105] s
  rw [← hS1] at hf1
  have zs := bstr_size s
  obtain ⟨n, hn⟩ : ∃ n, n = s.length := ⟨_, rfl⟩
  rw [← hn] at zs hs
  have z1 : (bstr S1).size = 1 + n := by rw [bstr_size, hS1, hn]; simp; omega
  have n1 : ¬ (9223372036854775807 < 1 + n) := by omega
  have hU : ∃ u v : Nat, IntKind.u64.wrap ((2 : Int) ^ (1 + (b : Int)).toNat) = (u : Int) ∧ IntKind.u64.wrap ((u : Int) + 1) = (v : Int) ∧ 1 ≤ v := by
    rcases (by omega : b = 0 ∨ b = 1) with e | e
    · rw [e]; exact ⟨2, 3, rfl, rfl, by omega⟩
    · rw [e]; exact ⟨4, 5, rfl, rfl, by omega⟩
  obtain ⟨u, v, hu1, hu2, hv1⟩ := hU
  have hv0 : ¬ v = 0 := by omega
  have w0 : IntKind.u64.wrap 0 = 0 := rfl
  have w1' : IntKind.i64.wrap 0 = 0 := rfl
  generalize filledV S1 16 = F1 at *
  generalize filledV s 32 = F2 at *
  have HF1 := Lib.hid hf1; have HF2 := Lib.hid hf2; have HKV := Lib.hid hkv
  obtain ⟨K, hK⟩ : ∃ K : LKey, K = ⟨3, ((1 + b : Nat) : Int), F1, F2, 0⟩ := ⟨_, rfl⟩
  rw [hkv]
  clear hf1 hf2 hkv hS1 hn hb hK
  go_enter Try.func29, Try.ntmps29
  go_wp2_with (refine wpList_allocZ rfl 45 rfl _ zeroLK ?_)
  intro g6 w1 e1 c1 t1 s1
  have l6 : w.heap.size ≤ g6 := by omega
  clear e1 s1
  have D6 := Lib.hid c1; have PT := Lib.hid t1
  clear c1 t1
  go_wp2_with fail
  refine wp_region_G (S := fun w' => Turn (fun k => k = g6) w1 w' ∧ Held [] w') (T := StoreAt 14 g6 (Obj.cells (lkC LKey0).toArray 45 (0, 0)) (Obj.cells (lkC ⟨3, ((1 + b : Nat) : Int), F1, F2, 0⟩).toArray 45 (0, 0))) (by kernel_rfl) ⟨(Turn.refl _ _).drew, held_nil _⟩ (show w1.drew.heap[g6]? = _ from D6.out) ?_
  have HG := Grow.store w1 [] 14 g6 (Obj.cells (lkC LKey0).toArray 45 (0, 0)) (Obj.cells (lkC ⟨3, ((1 + b : Nat) : Int), F1, F2, 0⟩).toArray 45 (0, 0))
  refine atN 0 ?_
  iterate 3
    refine anyG_y HG (v := ?_) rfl (by kernel_rfl) (fun _ _ _ h => h) (StoreAt.ins (by decide)) (Or.inl ⟨by rfl, fun w hSw => ?_⟩) ?_
    rotate_left
    · skip
      first | (go_simp; done) | (go_simp; with_reducible rfl)
    simp only [Nat.reduceAdd, List.getElem_toArray, List.getElem_cons_succ, List.getElem_cons_zero, Act.put, List.setIfInBounds_toArray, List.set_cons_zero, List.set_cons_succ]
  refine anyG_take HG (i := 4) (v := ?_) rfl (by kernel_rfl) (by kernel_rfl) (by kernel_rfl) (fun _ _ _ h => h) (StoreAt.ins (by decide)) (Or.inl ⟨by rfl, fun w hSw => ?_⟩) ?_
  rotate_left
  · skip
    first | (go_simp; done) | (go_simp; with_reducible rfl)
  simp only [List.getElem_toArray, List.getElem_cons_succ, List.getElem_cons_zero, Act.put, List.setIfInBounds_toArray, List.set_cons_zero, List.set_cons_succ]
  refine anyG_take HG (i := 6) (v := ?_) rfl (by kernel_rfl) (by kernel_rfl) (by kernel_rfl) (fun _ _ _ h => h) (StoreAt.ins (by decide)) (Or.inl ⟨by rfl, fun w hSw => ?_⟩) ?_
  rotate_left
  · skip
    first | (go_simp; done) | (go_simp; with_reducible rfl)
  simp only [List.getElem_toArray, List.getElem_cons_succ, List.getElem_cons_zero, Act.put, List.setIfInBounds_toArray, List.set_cons_zero, List.set_cons_succ]
  refine anyG_take HG (i := 8) (v := ?_) rfl (by kernel_rfl) (by kernel_rfl) (by kernel_rfl) (fun _ _ _ h => h) (StoreAt.ins (by decide)) (Or.inl ⟨by rfl, fun w hSw => ?_⟩) ?_
  rotate_left
  · skip
    first | (go_simp; done) | (go_simp; with_reducible rfl)
  simp only [List.getElem_toArray, List.getElem_cons_succ, List.getElem_cons_zero, Act.put, List.setIfInBounds_toArray, List.set_cons_zero, List.set_cons_succ]
  refine anyG_take HG (i := 9) (v := ?_) rfl (by kernel_rfl) (by kernel_rfl) (by kernel_rfl) (fun _ _ _ h => h) (StoreAt.ins (by decide)) (Or.inl ⟨by rfl, fun w hSw => ?_⟩) ?_
  rotate_left
  · skip
    first | (go_simp; done) | (go_simp; with_reducible rfl)
  simp only [List.getElem_toArray, List.getElem_cons_succ, List.getElem_cons_zero, Act.put, List.setIfInBounds_toArray, List.set_cons_zero, List.set_cons_succ]
  refine anyG_take HG (i := 10) (v := ?_) rfl (by kernel_rfl) (by kernel_rfl) (by kernel_rfl) (fun _ _ _ h => h) (StoreAt.ins (by decide)) (Or.inl ⟨by rfl, fun w hSw => ?_⟩) ?_
  rotate_left
  · skip
    first | (go_simp; done) | (go_simp; with_reducible rfl)
  simp only [List.getElem_toArray, List.getElem_cons_succ, List.getElem_cons_zero, Act.put, List.setIfInBounds_toArray, List.set_cons_zero, List.set_cons_succ]
  refine anyG_call HG (i := 3) (fun w hSw => HF1.out w) rfl (by kernel_rfl) (by kernel_rfl) (by kernel_rfl) (fun _ _ _ h => h) (StoreAt.ins (by decide)) (by rfl) (fun w hSw => by go_simp; first | done | with_reducible rfl) ?_
  simp only [List.getElem_toArray, List.getElem_cons_succ, List.getElem_cons_zero, Act.put, List.setIfInBounds_toArray, List.set_cons_zero, List.set_cons_succ]
  refine anyG_call HG (i := 5) (fun w hSw => HF2.out w) rfl (by kernel_rfl) (by kernel_rfl) (by kernel_rfl) (fun _ _ _ h => h) (StoreAt.ins (by decide)) (by rfl) (fun w hSw => by go_simp; first | done | with_reducible rfl) ?_
  simp only [List.getElem_toArray, List.getElem_cons_succ, List.getElem_cons_zero, Act.put, List.setIfInBounds_toArray, List.set_cons_zero, List.set_cons_succ]
  refine anyG_take HG (i := 7) (v := ?_) rfl (by kernel_rfl) (by kernel_rfl) (by kernel_rfl) (fun _ _ _ h => h) (StoreAt.ins (by decide)) (Or.inl ⟨by rfl, fun w hSw => ?_⟩) ?_
  rotate_left
  · skip
    first | (go_simp; done) | (go_simp; with_reducible rfl)
  simp only [List.getElem_toArray, List.getElem_cons_succ, List.getElem_cons_zero, Act.put, List.setIfInBounds_toArray, List.set_cons_zero, List.set_cons_succ]
  refine anyG_take HG (i := 11) (v := ?_) rfl (by kernel_rfl) (by kernel_rfl) (by kernel_rfl) (fun _ _ _ h => h) (StoreAt.ins (by decide)) (Or.inl ⟨by rfl, fun w hSw => ?_⟩) ?_
  rotate_left
  · skip
    first | (go_simp; done) | (go_simp; with_reducible rfl)
  simp only [List.getElem_toArray, List.getElem_cons_succ, List.getElem_cons_zero, Act.put, List.setIfInBounds_toArray, List.set_cons_zero, List.set_cons_succ]
  refine anyG_take HG (i := 12) (v := ?_) rfl (by kernel_rfl) (by kernel_rfl) (by kernel_rfl) (fun _ _ _ h => h) (StoreAt.ins (by decide)) (Or.inl ⟨by rfl, fun w hSw => ?_⟩) ?_
  rotate_left
  · skip
    first | (go_simp; done) | (go_simp; with_reducible rfl)
  simp only [List.getElem_toArray, List.getElem_cons_succ, List.getElem_cons_zero, Act.put, List.setIfInBounds_toArray, List.set_cons_zero, List.set_cons_succ]
  refine anyG_take HG (i := 13) (v := ?_) rfl (by kernel_rfl) (by kernel_rfl) (by kernel_rfl) (fun _ _ _ h => h) (StoreAt.ins (by decide)) (Or.inl ⟨by rfl, fun w hSw => ?_⟩) ?_
  rotate_left
  · skip
    first | (go_simp; done) | (go_simp; with_reducible rfl)
  simp only [List.getElem_toArray, List.getElem_cons_succ, List.getElem_cons_zero, Act.put, List.setIfInBounds_toArray, List.set_cons_zero, List.set_cons_succ]
  refine anyG_store (i := 14) (by kernel_rfl) rfl rfl rfl rfl rfl rfl infoLK (lkC_one _) (fun p hp => nomatch hp) ?_
  simp only [Act.put]
  refine anyG_done (by kernel_rfl) (fun w2 hS hT => ?_) _
  obtain ⟨hpS, hS⟩ := hS
  clear HG
  have PT := Lib.hid (PT.out.newer hpS l6)
  have D6 := Lib.hid (show w2.heap[g6]? = _ from hT)
  clear hS hT hpS
  go_wp2
  exact bodyPost_ret (v := .agg (lkC ⟨3, ((1 + b : Nat) : Int), F1, F2, 0⟩).toArray) (results_cell_row Try.results29 _ _ g6 _ _ _ _ rfl D6.out Try.underlying45 rfl infoLK) rfl ⟨rfl, PT.out⟩

theorem lc_id : (keyV [115] 0).id = beB lcID 16 := by decide +kernel
theorem lc_seed : (keyV [115] 0).seed = beB lcS 32 := by decide +kernel
theorem lc_pubF (q : Nat) (hq : q ≤ 1) : pubF (keyV [115] 0) q = otsPubV 4 67 (placeV (beB lcID 16) q) (beB lcS 32) := by
  have h1 : kindB 3 = true := rfl
  have h2 : placeB (beB lcID 16) (q : Int) = true := decide_eq_true ⟨beB_length _ _, by omega⟩
  have h3 : (beB lcS 32).length = 32 := beB_length _ _
  show (pubV 3 (keyV [115] 0).id (q : Int) (keyV [115] 0).seed).1 = _
  rw [lc_id, lc_seed, pubV, if_pos ⟨h1, h2, h3⟩]
  rfl
theorem lc_cand : (candV (keyV [115] 0).id (0 : Nat) [120] (signV (keyV [115] 0).ots (keyV [115] 0).id (0 : Nat) (keyV [115] 0).seed [109]).1).1 = otsCandV 4 67 4 (placeV (beB lcID 16) 0) [120] (otsSignV 3 4 67 4 (placeV (beB lcID 16) 0) (beB lcS 32) [109]) := by
  have h1 : kindB 3 = true := rfl
  have h2 : placeB (beB lcID 16) ((0 : Nat) : Int) = true := decide_eq_true ⟨beB_length _ _, by decide⟩
  have h3 : (beB lcS 32).length = 32 := beB_length _ _
  have hsv : (signV (keyV [115] 0).ots (keyV [115] 0).id (0 : Nat) (keyV [115] 0).seed [109]).1 = otsSignV 3 4 67 4 (placeV (beB lcID 16) 0) (beB lcS 32) [109] := by
    show (signV 3 (keyV [115] 0).id (0 : Nat) (keyV [115] 0).seed [109]).1 = _
    rw [lc_id, lc_seed, signV, if_pos ⟨h1, h2, h3, by decide⟩]
    rfl
  have hl := otsSign_length 3 4 67 4 (placeV (beB lcID 16) 0) (beB lcS 32) [109]
  have h4 : n4 (otsSignV 3 4 67 4 (placeV (beB lcID 16) 0) (beB lcS 32) [109]) = 3 := by
    rw [otsSignV, List.append_assoc]; exact n4_be (by omega) _
  have hks : kindSV (otsSignV 3 4 67 4 (placeV (beB lcID 16) 0) (beB lcS 32) [109]) = (3, true) := by
    rw [kindSV, if_neg (by omega), k4V_n4 (by omega), h4, hl]; rfl
  have e3 : parV 3 = (4, 67, 4) := rfl
  rw [hsv, lc_id, candV, hks, if_pos ⟨rfl, h2, by decide⟩]
  simp only [e3, Int.toNat_natCast]
theorem lc_verify : verifyV (lpubV (keyV [115] 0)).1 [120] (lsignV (keyV [115] 0) [109]).1 = 502 := by
  have hB := keyV_may [115] (b := 0) (by decide)
  rw [verify_signed hB (q := 0) (h := 1) rfl rfl (by decide) (by decide) (by decide), if_neg]
  intro h
  refine lcapart ?_
  have n3 : nodeN (keyV [115] 0).id (pubF (keyV [115] 0)) (2 ^ 1) 3 = tipV (beB lcID 16) 3 (otsPubV 4 67 (placeV (beB lcID 16) 1) (beB lcS 32)) := by
    rw [nodeN_leaf (by decide), show 3 - 2 ^ 1 = 1 from rfl, lc_pubF 1 (by decide), lc_id]
  have n2 : nodeN (keyV [115] 0).id (pubF (keyV [115] 0)) (2 ^ 1) 2 = tipV (beB lcID 16) 2 (otsPubV 4 67 (placeV (beB lcID 16) 0) (beB lcS 32)) := by
    rw [nodeN_leaf (by decide), show 2 - 2 ^ 1 = 0 from rfl, lc_pubF 0 (by decide), lc_id]
  have n1 : nodeN (keyV [115] 0).id (pubF (keyV [115] 0)) (2 ^ 1) 1 = nodV (beB lcID 16) 1 (tipV (beB lcID 16) 2 (otsPubV 4 67 (placeV (beB lcID 16) 0) (beB lcS 32))) (tipV (beB lcID 16) 3 (otsPubV 4 67 (placeV (beB lcID 16) 1) (beB lcS 32))) := by
    rw [nodeN_in (by decide) (by decide), show 2 * 1 = 2 from rfl, show 2 + 1 = 3 from rfl, n2, n3, lc_id]
  rw [← n1, ← h, climbV, climbV]
  rw [show (2 ^ 1 + 0) / 2 ^ 0 = 2 from rfl, if_pos (by decide), show (2 ^ 1 + 0) / 2 ^ (0 + 1) = 1 from rfl, show 2 ^ 1 + 0 = 2 from rfl]
  have hs := sideV_at (nodeN (keyV [115] 0).id (pubF (keyV [115] 0)) (2 ^ 1)) (fun i => nodeN_length _ _ _ _) 2 1 0 [] (by decide)
  rw [List.append_nil, show (2 / 2 ^ 0) ^^^ 1 = 3 from rfl, n3] at hs
  rw [hs, lc_cand, lc_id]

theorem verify_none (msg sign : List UInt8) : verifyV [] msg sign = 500 := by
  rw [verifyV, apartV, if_neg (by decide)]
theorem lpub_length {k : LKey} (hB : lmayB k = true) : (lpubV k).1.length = 56 := by
  obtain ⟨o, h', q', ho, ho2, hh', h1, h5, hid, hseed, hq', hqm⟩ := lmay_parts hB
  rw [lpubV, if_pos hB]
  simp only [List.length_append, beB_length, hid]
  rw [nodeN_length]
theorem lpub_ok {k : LKey} (hB : lmayB k = true) : (lpubV k).2 = 0 := by rw [lpubV, if_pos hB]
theorem lsign_ok {k : LKey} (hB : lmayB k = true) {q h : Nat} (hh : k.height = (h : Int)) (hq : k.next = (q : Int)) (hlt : q < 2 ^ h) {msg : List UInt8} (hm : msg.length ≤ 65536) : (lsignV k msg).2 = ({ k with next := k.next + 1 }, 0) := by
  have hne : ¬ (k.next = ((2 ^ h : Nat) : Int)) := by omega
  rw [lsignV, if_pos ⟨hB, hm⟩, hh, Int.toNat_natCast, if_neg hne]
theorem lsign_length (k : LKey) (msg : List UInt8) : (lsignV k msg).1.length ≤ 3000 := by
  have hs := signV_length k.ots k.id k.next k.seed msg
  unfold lsignV
  split
  · rename_i hB
    obtain ⟨o, h', q', ho, ho2, hh', h1, h5, hid, hseed, hq', hqm⟩ := lmay_parts hB.1
    split
    · simp
    · simp only [List.length_append, beB_length]
      rw [sideV_length (fun i => nodeN_length _ _ _ _), hh', Int.toNat_natCast]
      omega
  · simp
theorem lsign_spent : lsignV { keyV [115] 0 with next := 2 } [109] = ([], LKey0, 501) := by
  have hB : lmayB { keyV [115] 0 with next := 2 } = true := by decide +kernel
  rw [lsignV, if_pos ⟨hB, by decide⟩, if_pos (by decide)]

set_option maxRecDepth 100000 in
set_option maxHeartbeats 4000000 in
theorem awake5 (w : World) : Calls Try.prog 26 #[] w fun e w' => e = .returned (.bool true) ∧ Pure w w' := by
  have hB := keyV_may [115] (b := 0) (by decide)
  have hky := fun W => Key5_any W [115] 0 0 (by decide) (by decide)
  have hpu := fun W => LPublic_any W (keyV [115] 0)
  have hsi := fun W => LSign_any W (keyV [115] 0) [109]
  have hsp := fun W => LSign_any W { keyV [115] 0 with next := 2 } [109]
  rw [lsign_spent] at hsp
  have hpl := lpub_length hB
  have hsl := lsign_length (keyV [115] 0) [109]
  rw [lpub_ok hB] at hpu
  rw [lsign_ok hB (q := 0) (h := 1) rfl rfl (by decide) (by decide)] at hsi
  have hv1 := fun W => LVerify_any W (lpubV (keyV [115] 0)).1 [109] (lsignV (keyV [115] 0) [109]).1 (by omega) (by omega)
  have hv2 := fun W => LVerify_any W (lpubV (keyV [115] 0)).1 [120] (lsignV (keyV [115] 0) [109]).1 (by omega) (by omega)
  have hv3 := fun W => LVerify_any W [] [109] (lsignV (keyV [115] 0) [109]).1 (by decide) (by omega)
  rw [lms_back hB (q := 0) (h := 1) rfl rfl (by decide) (by decide)] at hv1
  rw [lc_verify] at hv2
  rw [verify_none] at hv3
  have hset : ∀ v : Int, (lkC (keyV [115] 0)).take 4 ++ [Value.int .i64 v] ++ (lkC (keyV [115] 0)).drop 5 = lkC { keyV [115] 0 with next := v } := fun v => rfl
  have hn1 : ({ keyV [115] 0 with next := (keyV [115] 0).next + 1 } : LKey).next = 1 := rfl
  generalize { keyV [115] 0 with next := (keyV [115] 0).next + 1 } = K1 at *
  have hset2 := hset 2
  generalize { keyV [115] 0 with next := 2 } = K2 at hset2 hsp
  generalize keyV [115] 0 = K at *
  generalize (lpubV K).1 = P at *
  generalize (lsignV K [109]).1 = SG at *
  have HKY := Lib.hid hky; have HPU := Lib.hid hpu; have HSI := Lib.hid hsi; have HSP := Lib.hid hsp; have HV1 := Lib.hid hv1; have HV2 := Lib.hid hv2; have HV3 := Lib.hid hv3; have HSET := Lib.hid hset2
  have HN1 := Lib.hid hn1
  have zP : (bstr P).size = 56 := by rw [bstr_size, hpl]
  clear hky hpu hsi hsp hv1 hv2 hv3 hset hset2 hn1 hB hsl hpl
  have PT := Lib.hid (Turn.refl (fun _ => False) w)
  go_enter Try.func26, Try.ntmps26
  go_wp2_with fail
  refine (HKY.out _).mono ?_
  rintro e w1 ⟨rfl, t1⟩
  have PT := Lib.hid (PT.out.pure t1)
  clear t1
  go_wp2_with (refine wpList_allocZ rfl 45 rfl _ zeroLK ?_)
  intro g1 w2 e2 c2 t2 s2
  have l1 : w.heap.size ≤ g1 := by have := PT.out.size; omega
  clear e2 s2
  go_wp2_with (refine wpList_store_blk rfl 45 _ _ rfl g1 _ (lkC K) _ rfl rfl c2 rfl infoLK (lkC_one _) ?_)
  intro w3 d3 t3 s3
  clear s3
  have D1 := Lib.hid d3; have PT := Lib.hid ((PT.out.pure t2).newer t3 l1)
  clear c2 t2 d3 t3
  have R1 := range_of_row D1.out
  go_wp2_with (refine wpList_load_mid rfl 45 _ rfl g1 0 rfl (lkC K) _ R1 Try.underlying45 rfl infoLK ?_)
  clear R1
  refine (HPU.out _).mono ?_
  rintro e w4 ⟨rfl, t4⟩
  have D1 := Lib.hid (t4.obj D1.out (fun e => e)); have PT := Lib.hid (PT.out.pure t4)
  clear t4
  have R1 := range_of_row D1.out
  go_wp2_with (refine wpList_load_mid rfl 45 _ rfl g1 0 rfl (lkC K) _ R1 Try.underlying45 rfl infoLK ?_)
  clear R1
  refine (HSI.out _).mono ?_
  rintro e w5 ⟨rfl, t5⟩
  have D1 := Lib.hid (t5.obj D1.out (fun e => e)); have PT := Lib.hid (PT.out.pure t5)
  clear t5
  go_wp2_with (refine wpList_allocZ rfl 45 rfl _ zeroLK ?_)
  intro g5 w6 e6 c6 t6 s6
  have l5 : w.heap.size ≤ g5 := by have := PT.out.size; omega
  have n15 : g1 ≠ g5 := by have := (Array.getElem?_eq_some_iff.1 D1.out).1; omega
  clear e6 s6
  go_wp2_with (refine wpList_store_blk rfl 45 _ _ rfl g5 _ (lkC K1) _ rfl rfl c6 rfl infoLK (lkC_one _) ?_)
  intro w7 d7 t7 s7
  clear s7
  have D5 := Lib.hid d7; have D1 := Lib.hid (t7.obj (t6.obj D1.out (fun e => e)) n15); have PT := Lib.hid ((PT.out.pure t6).newer t7 l5)
  clear c6 t6 d7 t7
  go_wp2_with fail
  refine (HV1.out _).mono ?_
  rintro e w8 ⟨rfl, t8⟩
  have D1 := Lib.hid (t8.obj D1.out (fun e => e)); have D5 := Lib.hid (t8.obj D5.out (fun e => e)); have PT := Lib.hid (PT.out.pure t8)
  clear t8
  go_wp2_with fail
  refine (HV2.out _).mono ?_
  rintro e w9 ⟨rfl, t9⟩
  have D1 := Lib.hid (t9.obj D1.out (fun e => e)); have D5 := Lib.hid (t9.obj D5.out (fun e => e)); have PT := Lib.hid (PT.out.pure t9)
  clear t9
  go_wp2_with fail
  refine (HV3.out _).mono ?_
  rintro e w10 ⟨rfl, t10⟩
  have D1 := Lib.hid (t10.obj D1.out (fun e => e)); have D5 := Lib.hid (t10.obj D5.out (fun e => e)); have PT := Lib.hid (PT.out.pure t10)
  clear t10
  have c4 := (lk_cells D1.out).2.2.2.2
  have fz : w10.frozen? ⟨g1, 4, none⟩ = false := frozen_of_row w10 g1 4 _ _ D1.out
  obtain ⟨d2, t2, _⟩ := setAt (i := 4) (v := .int .i64 2) D1.out (by show 4 < 5; omega)
  rw [HSET.out] at d2
  have D1 := Lib.hid d2; have D5 := Lib.hid (t2.obj D5.out (Ne.symm n15)); have PT := Lib.hid (PT.out.newer t2 l1)
  have R1 := range_of_row D1.out
  clear d2 t2
  go_wp2_with (refine wpList_load_mid rfl 45 _ rfl g1 0 rfl (lkC K2) _ R1 Try.underlying45 rfl infoLK ?_)
  generalize w10.setCell ⟨g1, 4, none⟩ (.int .i64 2) = w11 at *
  clear R1 c4 fz
  refine (HSP.out _).mono ?_
  rintro e w12 ⟨rfl, t12⟩
  have D5 := Lib.hid (t12.obj D5.out (fun e => e)); have PT := Lib.hid (PT.out.pure t12)
  clear t12
  go_wp2_with (refine wpList_allocZ rfl 45 rfl _ zeroLK ?_)
  intro g11 w13 e13 c13 t13 s13
  have l11 : w.heap.size ≤ g11 := by have := PT.out.size; omega
  have n511 : g5 ≠ g11 := by have := (Array.getElem?_eq_some_iff.1 D5.out).1; omega
  clear e13 s13
  go_wp2_with (refine wpList_store_blk rfl 45 _ _ rfl g11 _ (lkC LKey0) _ rfl rfl c13 rfl infoLK (lkC_one _) ?_)
  intro w14 d14 t14 s14
  clear s14
  have D5 := Lib.hid (t14.obj (t13.obj D5.out (fun e => e)) n511); have PT := Lib.hid ((PT.out.pure t13).newer t14 l11)
  clear c13 t13 d14 t14
  have c5 := (lk_cells D5.out).2.2.2.2
  rw [HN1.out] at c5
  go_wp2_with (refine (Num9_any _ _).mono ?_; rintro e wn ⟨rfl, rfl⟩)
  go_ret
  exact ⟨rfl, PT.out⟩

set_option maxRecDepth 100000 in
set_option maxHeartbeats 4000000 in
theorem lmsVerifies_walk (pub msg sign : List UInt8) (w : World) (hp : pub.length ≤ 140737488351232) (_ : msg.length ≤ 140737488351232) (hs : sign.length ≤ 140737488351232) :
    Calls Try.prog 9 #[.string (bstr pub), .string (bstr msg), .string (bstr sign)] w fun e w' => e = .returned (.bool true) ∧ Pure w w' := by
  have h1 := fun W => LVerify_any W pub msg sign hp hs
  have h2 := fun W => LmsVerifyR_any W pub msg sign hp hs
  generalize verifyV pub msg sign = V at *
  have H1 := Lib.hid h1; have H2 := Lib.hid h2
  clear h1 h2
  go_enter Try.func9, Try.ntmps9
  go_wp2_with fail
  refine (H1.out _).mono ?_
  rintro e w1 ⟨rfl, t1⟩
  have PT := Lib.hid t1
  clear t1
  go_wp2_with fail
  refine (Num9_any _ _).mono ?_
  rintro e w2 ⟨rfl, rfl⟩
  go_wp2_with fail
  refine (H2.out _).mono ?_
  rintro e w3 ⟨rfl, t3⟩
  have PT := Lib.hid (PT.out.pure t3)
  clear t3
  go_wp2_with fail
  refine (awake5 _).mono ?_
  rintro e w4 ⟨rfl, t4⟩
  have PT := Lib.hid (PT.out.pure t4)
  clear t4
  go_wp2
  go_ret
  exact ⟨rfl, PT.out⟩
end Go.Proofs.Ytmifchdmlbcclaa
