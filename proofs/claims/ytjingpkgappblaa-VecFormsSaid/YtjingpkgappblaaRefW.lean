/- Walks of the reference's bytes: numbers as bytes, writers, readers. -/
import Derived.Test.YtjingpkgappblaaWireR
namespace Go.Proofs.Ytjingpkgappblaa
open Go.RowKit

/-- The bytes of a number of which the last k are written. -/
def beTail (x n k : Nat) : List UInt8 := List.replicate (n - k) 0 ++ (beB x n).drop (n - k)
theorem beTail_zero (x n : Nat) : beTail x n 0 = List.replicate n 0 := by simp [beTail, beB_length, List.drop_of_length_le]
theorem beTail_full (x n : Nat) : beTail x n n = beB x n := by simp [beTail]
theorem beTail_length (x n k : Nat) (h : k ≤ n) : (beTail x n k).length = n := by
  simp only [beTail, List.length_append, List.length_replicate, List.length_drop, beB_length]; omega
theorem beTail_set (x n k : Nat) (h : k < n) : ((u8s (beTail x n k)).set (n - 1 - k) (Value.int .u8 (((x >>> (8 * k)) % 256 : Nat) : Int))).toArray = (u8s (beTail x n (k + 1))).toArray := by
  congr 1
  have hb : Value.int .u8 (((x >>> (8 * k)) % 256 : Nat) : Int) = u8 (UInt8.ofNat (x >>> (8 * k))) := by rw [u8, UInt8.toNat_ofNat']
  rw [hb]
  have hg := beB_get x n (n - 1 - k) (by omega)
  rw [show n - 1 - (n - 1 - k) = k from by omega] at hg
  have e : (beB x n).drop (n - (k + 1)) = UInt8.ofNat (x >>> (8 * k)) :: (beB x n).drop (n - k) := by
    rw [show n - (k + 1) = n - 1 - k from by omega, List.drop_eq_getElem_cons (by rw [beB_length]; omega), show n - 1 - k + 1 = n - k from by omega]
    rw [List.getElem?_eq_getElem (by rw [beB_length]; omega)] at hg
    rw [Option.some.inj hg]
  have r : List.replicate (n - k) (0 : UInt8) = List.replicate (n - (k + 1)) 0 ++ [0] := by
    rw [show n - k = n - (k + 1) + 1 from by omega, List.replicate_succ']
  simp only [u8s, beTail, e, r, List.map_append, List.map_cons, List.append_assoc, List.cons_append, List.nil_append]
  rw [List.set_append_right _ _ (by simp; omega)]
  simp [show n - 1 - k - (n - (k + 1)) = 0 from by omega]

theorem and255 (x : Nat) (h : x < 9223372036854775808) : bits .and .i64 (x : Int) 255 = ((x % 256 : Nat) : Int) := by
  have := bits_mask .i64 63 (by decide) (fun n a c => by rw [IntKind.wrap_i64]; omega) 8 (by decide) (x : Int) (by omega) (by omega)
  simpa using this

set_option maxHeartbeats 400000 in
theorem Be_any (x n : Nat) (w : World) (hn : n ≤ 1000) (hx : x < 9223372036854775808) :
    Calls Try.prog 44 #[.int .i64 x, .int .i64 n] w fun e w' => e = .returned (.string (bstr (beB x n))) ∧ Pure w w' := by
  have hmk := make_u8 w n (by omega)
  go_enter Try.func44, Try.ntmps44
  go_wp2
  clear hmk
  go_loopw [0, 6] (fun y i wr => ∃ k : Nat, k ≤ n ∧ y = .int .i64 ((x >>> (8 * k) : Nat) : Int) ∧ i = .int .i64 ((n : Int) - 1 - k) ∧ wr = w.alloc (.cells (u8s (beTail x n k)).toArray 5)) (fun _ i _ => (intOf i + 1).toNat)
  case atStart => exact ⟨0, by omega, by simp, by simp, by rw [beTail_zero]⟩
  case round =>
    obtain ⟨k, hk, rfl, rfl, rfl⟩ := hrel
    have hsx : x >>> (8 * k) < 9223372036854775808 := Nat.lt_of_le_of_lt (Nat.shiftRight_le _ _) hx
    have hdiv : x >>> (8 * (k + 1)) = (x >>> (8 * k)) / 256 := by rw [show 8 * (k + 1) = 8 * k + 8 from by omega, Nat.shiftRight_add, Nat.shiftRight_eq_div_pow _ 8]
    have HD := Lib.hid hdiv; clear hdiv
    by_cases hlt : k < n
    · obtain ⟨j, hj⟩ : ∃ j : Nat, n = j + 1 + k := ⟨n - 1 - k, by omega⟩
      have ej : ((n : Int) - 1 - k) = (j : Int) := by omega
      rw [ej]
      have hand := and255 _ hsx
      generalize hy : x >>> (8 * k) = y at hsx hand HD
      have HY := Lib.hid hy; clear hy
      have hc : (w.alloc (.cells (u8s (beTail x n k)).toArray 5)).cell? ⟨w.heap.size, j, none⟩ = some (u8 ((beTail x n k).getD j 0)) := by
        rw [World.cell?_alloc_new]; simp [u8s, List.getD, beTail_length x n k hk, show j < n by omega]
      have hjn : j < n := by omega
      have HJ := Lib.hid hj; clear hj
      clear ej
      go_wp2
      refine ⟨⟨k + 1, by omega, by rw [HD.out]; go_num, by have := HJ.out; go_num, ?_⟩, by simp [intOf]⟩
      have e := beTail_set x n k hlt
      rw [show n - 1 - k = j from by have := HJ.out; omega, HY.out] at e
      rw [← e]
      rfl
    · obtain rfl : k = n := by omega
      have ek : ((k : Int) - 1 - k) = -1 := by omega
      rw [ek, beTail_full]
      have hcv := conv_block (P := Try.prog) (w.alloc (.cells (u8s (beB x k)).toArray 5)) 43 5 9 5 (0, 0) Try.underlying43 Try.underlying5 Try.underlying9 w.heap.size k (beB x k) k (beB_length _ _) (heap_alloc_new _ _)
      go_wp2
      go_ret
      exact ⟨rfl, (Turn.refl _ _).alloc _⟩

set_option maxHeartbeats 400000 in
theorem sizedR_any (x s : Int) (w : World) :
    Calls Try.prog 53 #[.int .i64 x, .int .i64 s] w fun e w' => e = .returned (.bool (fitsB x s)) ∧ w = w' := by
  by_cases hs : sizedB s = true
  · obtain ⟨n, rfl, hn⟩ := sized_nat hs
    by_cases h0 : 0 ≤ x
    · rcases hn with rfl | rfl | rfl
      · have e : fitsB x ((1 : Nat) : Int) = decide (x < 256) := by simp [fitsB, sizedB, h0]
        rw [e]
        clear e hs
        go_enter Try.func53, Try.ntmps53
        go_wp2
        go_ret
        exact ⟨rfl, rfl⟩
      · have e : fitsB x ((2 : Nat) : Int) = decide (x < 65536) := by simp [fitsB, sizedB, h0]
        rw [e]
        clear e hs
        go_enter Try.func53, Try.ntmps53
        go_wp2
        go_ret
        exact ⟨rfl, rfl⟩
      · have e : fitsB x ((4 : Nat) : Int) = decide (x < 4294967296) := by simp [fitsB, sizedB, h0]
        rw [e]
        clear e hs
        go_enter Try.func53, Try.ntmps53
        go_wp2
        go_ret
        exact ⟨rfl, rfl⟩
    · have e : fitsB x n = false := by simp [fitsB, h0]
      rw [e]
      clear e hs
      rcases hn with rfl | rfl | rfl
      · go_enter Try.func53, Try.ntmps53
        go_wp2
        go_ret
        exact ⟨rfl, rfl⟩
      · go_enter Try.func53, Try.ntmps53
        go_wp2
        go_ret
        exact ⟨rfl, rfl⟩
      · go_enter Try.func53, Try.ntmps53
        go_wp2
        go_ret
        exact ⟨rfl, rfl⟩
  · have e : fitsB x s = false := by simp [fitsB, show sizedB s = false by simpa using hs]
    rw [e]
    clear e
    have hs' : sizedB s = false := by simpa using hs
    have b1 : (s == 1) = false := by simp only [sizedB, Bool.or_eq_false_iff] at hs'; exact hs'.1.1
    have b2 : (s == 2) = false := by simp only [sizedB, Bool.or_eq_false_iff] at hs'; exact hs'.1.2
    have b3 : (s == 4) = false := by simp only [sizedB, Bool.or_eq_false_iff] at hs'; exact hs'.2
    clear hs hs'
    go_enter Try.func53, Try.ntmps53
    go_wp2
    go_ret
    exact ⟨rfl, rfl⟩

set_option maxHeartbeats 400000 in
theorem raw_any (w : World) (g : Nat) (v : Value) (bs q : List UInt8) (h : IsWr 54 w g v bs) :
    Calls Try.prog 54 #[.pointer (some ⟨g, 0, none⟩), .string (bstr q)] w fun e w' => e = .returned (.int .i64 (wrPut bs q).1) ∧ Wrote 54 w w' g v (wrPut bs q).2 := by
  have hcell := h.at
  have hfree := h.free
  have hbl := h.len
  obtain ⟨ao, c, hv, _⟩ := ownsRow_shape h.own
  subst hv
  have hz := bstr_size q
  by_cases hb : bs.length + q.length ≤ 65536
  · have e1 : wrPut bs q = (0, bs ++ q) := by rw [wrPut, if_pos hb]
    rw [e1]
    clear e1
    have hsrc := Src.ofString (P := Try.prog) w (tx := 9) Try.underlying9 (bstr q)
    rw [bstr_size, byteCells_u8s, bstr_data] at hsrc
    have HS := Lib.hid hsrc; clear hsrc
    obtain ⟨i5, hi, hiz, hsz, hby⟩ := info_parts Try.infoU8
    go_enter Try.func54, Try.ntmps54
    go_wp2_with (at_builtin; refine wpList_append_turn _ rfl _ _ 43 9 5 rfl i5 _ 1 1 Try.underlying43 hi hiz hsz hby rfl _ _ _ rfl h.own _ rfl q.length _ HS.out ?_ ?_ ?_)
    case refine_1 => omega
    case refine_2 => omega
    intro ao2 c2 w2 hown2 ht2 hb2
    have hx1 := ht2.cell hcell (fun e => h.ne e)
    have hx2 : w2.frozen? ⟨g, 0, none⟩ = false := by rw [World.frozen?_of_block (ht2.block g h.lt (fun e => h.ne e))]; exact hfree
    obtain ⟨r1, r2, r3⟩ := h.grow ht2 hown2 (by simp) hb2 (by simp; omega)
    have HR := Lib.hid r1; clear r1
    have HR3 := Lib.hid r3; clear r3
    clear hown2 hcell hfree
    go_wp2
    go_ret
    exact ⟨rfl, Wrote.step (Turn.refl _ _) (.inl rfl) HR.out r2 HR3.out⟩
  · have e1 : wrPut bs q = (302, bs) := by rw [wrPut, if_neg hb]
    rw [e1]
    clear e1
    go_enter Try.func54, Try.ntmps54
    go_wp2
    go_ret
    exact ⟨rfl, Wrote.same h (Turn.refl _ _)⟩

set_option maxHeartbeats 400000 in
theorem T_any (w : World) (t : List UInt8) (ht0 : t.length = 32) :
    Calls Try.prog 55 #[hv t] w fun e w' => e = .returned (.string (bstr t)) ∧ Pure w w' := by
  have hcv := conv_block (P := Try.prog) (w.alloc (.cells (u8s t).toArray 56)) 43 5 9 56 (0, 0) Try.underlying43 Try.underlying5 Try.underlying9 w.heap.size 32 t 32 ht0 (heap_alloc_new _ _)
  have HT0 := Lib.hid ht0; clear ht0
  go_enter Try.func55, Try.ntmps55
  go_wp2
  go_ret
  exact ⟨rfl, (Turn.refl _ _).alloc _⟩

set_option maxHeartbeats 400000 in
theorem RWNum_any (w : World) (g : Nat) (v : Value) (bs : List UInt8) (x s : Int) (h : IsWr 54 w g v bs) :
    Calls Try.prog 32 #[.pointer (some ⟨g, 0, none⟩), .int .i64 x, .int .i64 s] w fun e w' =>
      e = .returned (.int .i64 (wrNum bs x s).1) ∧ Wrote 54 w w' g v (wrNum bs x s).2 := by
  by_cases hf : fitsB x s = true
  · have hle := beB_le hf
    have e1 : wrNum bs x s = wrPut bs (beB x.toNat s.toNat) := by rw [wrNum, if_pos hf]
    obtain ⟨a, n, rfl, rfl, hn, ha⟩ := fitsB_nat hf
    have hax : a < 9223372036854775808 := by rcases hn with rfl | rfl | rfl <;> omega
    have hn' : n ≤ 1000 := by omega
    simp only [Int.toNat_natCast] at hle e1
    have E1 := Lib.hid e1; clear e1
    have HF := Lib.hid hf; clear hf
    rw [E1.out]
    clear ha hn
    go_enter Try.func32, Try.ntmps32
    go_wp2_with fail
    refine (sizedR_any _ _ _).mono ?_
    rintro e w1 ⟨rfl, rfl⟩
    rw [HF.out]
    go_wp2_with fail
    refine (Be_any _ _ _ hn' hax).mono ?_
    rintro e w1 ⟨rfl, ht⟩
    go_wp2_with fail
    refine (raw_any _ g v bs _ (h.turn ht (fun _ _ e => e))).mono ?_
    rintro e w2 ⟨rfl, hw⟩
    have HW := Lib.hid hw; clear hw
    go_wp2
    go_ret
    exact ⟨rfl, Wrote.after ht HW.out⟩
  · have hf' : fitsB x s = false := by simpa using hf
    have e1 : wrNum bs x s = (301, bs) := by rw [wrNum, if_neg hf]
    rw [e1]
    clear e1 hf
    have HF := Lib.hid hf'; clear hf'
    go_enter Try.func32, Try.ntmps32
    go_wp2_with fail
    refine (sizedR_any _ _ _).mono ?_
    rintro e w1 ⟨rfl, rfl⟩
    rw [HF.out]
    go_wp2
    go_ret
    exact ⟨rfl, Wrote.same h (Turn.refl _ _)⟩

set_option maxHeartbeats 400000 in
theorem RWText_any (w : World) (g : Nat) (v : Value) (bs t : List UInt8) (s : Int) (h : IsWr 54 w g v bs) (ht0 : t.length ≤ 4611686018427387904) :
    Calls Try.prog 33 #[.pointer (some ⟨g, 0, none⟩), .string (bstr t), .int .i64 s] w fun e w' =>
      e = .returned (.int .i64 (wrText bs t s).1) ∧ Wrote 54 w w' g v (wrText bs t s).2 := by
  have hz := bstr_size t
  by_cases hf : fitsB t.length s = true
  · by_cases hbig : t.length ≤ 65536
    · have hle := beB_le hf
      have e1 : wrText bs t s = wrPut bs (beB t.length s.toNat ++ t) := by rw [wrText, if_pos hf]
      obtain ⟨a, n, ea, rfl, hn, ha⟩ := fitsB_nat hf
      have hn' : n ≤ 1000 := by omega
      simp only [Int.toNat_natCast] at hle e1
      have E1 := Lib.hid e1; clear e1
      have HF := Lib.hid hf; clear hf
      rw [E1.out]
      clear ha hn ea
      go_enter Try.func33, Try.ntmps33
      go_wp2_with fail
      refine (sizedR_any _ _ _).mono ?_
      rintro e w1 ⟨rfl, rfl⟩
      rw [HF.out]
      go_wp2_with fail
      refine (Be_any _ _ _ hn' (by omega)).mono ?_
      rintro e w1 ⟨rfl, ht⟩
      have hz2 := bstr_size (beB t.length n)
      go_wp2_with fail
      rw [bstr_app]
      refine (raw_any _ g v bs _ (h.turn ht (fun _ _ e => e))).mono ?_
      rintro e w2 ⟨rfl, hw⟩
      have HW := Lib.hid hw; clear hw
      go_wp2
      go_ret
      exact ⟨rfl, Wrote.after ht HW.out⟩
    · have e1 : wrText bs t s = (302, bs) := by rw [wrText, if_pos hf, wrPut, if_neg (by simp; omega)]
      rw [e1]
      clear e1
      have HF := Lib.hid hf; clear hf
      go_enter Try.func33, Try.ntmps33
      go_wp2_with fail
      refine (sizedR_any _ _ _).mono ?_
      rintro e w1 ⟨rfl, rfl⟩
      rw [HF.out]
      go_wp2
      go_ret
      exact ⟨rfl, Wrote.same h (Turn.refl _ _)⟩
  · have hf' : fitsB t.length s = false := by simpa using hf
    have e1 : wrText bs t s = (301, bs) := by rw [wrText, if_neg hf]
    rw [e1]
    clear e1 hf
    have HF := Lib.hid hf'; clear hf'
    go_enter Try.func33, Try.ntmps33
    go_wp2_with fail
    refine (sizedR_any _ _ _).mono ?_
    rintro e w1 ⟨rfl, rfl⟩
    rw [HF.out]
    go_wp2
    go_ret
    exact ⟨rfl, Wrote.same h (Turn.refl _ _)⟩

set_option maxHeartbeats 400000 in
theorem RWHash_any (w : World) (g : Nat) (v : Value) (bs t : List UInt8) (h : IsWr 54 w g v bs) (ht0 : t.length = 32) :
    Calls Try.prog 35 #[.pointer (some ⟨g, 0, none⟩), hv t] w fun e w' =>
      e = .returned (.int .i64 (wrPut bs t).1) ∧ Wrote 54 w w' g v (wrPut bs t).2 := by
  have HT0 := Lib.hid ht0; clear ht0
  have hC := heap_alloc_new w (.cells (u8s t).toArray 56)
  have HC := Lib.hid hC; clear hC
  go_enter Try.func35, Try.ntmps35
  go_wp2_with (refine wpList_load_row rfl 56 _ rfl w.heap.size rfl _ (u8s t).toArray _ _ HC.out Try.underlying56 rfl (by rw [List.size_toArray, u8s_length, HT0.out]; kernel_rfl) ?_)
  refine (T_any _ t HT0.out).mono ?_
  rintro e w1 ⟨rfl, ht⟩
  go_wp2_with fail
  have hp : Pure w w1 := ((Turn.refl _ _).alloc _).pure ht
  refine (raw_any _ g v bs _ (h.turn hp (fun _ _ e => e))).mono ?_
  rintro e w2 ⟨rfl, hw⟩
  have HW := Lib.hid hw; clear hw
  go_wp2
  go_ret
  exact ⟨rfl, Wrote.after hp HW.out⟩

set_option maxHeartbeats 400000 in
theorem RWAll_any (w : World) (g : Nat) (v : Value) (bs : List UInt8) (h : IsWr 54 w g v bs) :
    Calls Try.prog 36 #[.pointer (some ⟨g, 0, none⟩)] w fun e w' => e = .returned (.string (bstr bs)) ∧ w = w' := by
  have h1 := h.at
  have hcv := conv_own h
  go_enter Try.func36, Try.ntmps36
  go_wp2
  go_ret
  exact ⟨rfl, rfl⟩
end Go.Proofs.Ytjingpkgappblaa
