/- Chapter 4: the walks of three laws. -/
import Derived.Test.YtmifchdmlbcclaaOtsX
namespace Go.Proofs.Ytmifchdmlbcclaa
open Go.RowKit

set_option maxRecDepth 100000 in
set_option maxHeartbeats 4000000 in
theorem OtsKeys_any (k : Int) (id : List UInt8) (q : Int) (seed msg : List UInt8) (hid : id.length ≤ 140737488351232) (w : World) : Calls Try.prog 3 #[.int .i64 k, .string (bstr id), .int .i64 q, .string (bstr seed), .string (bstr msg)] w fun e w' => e = .returned (.bool true) ∧ Pure w w' := by
  obtain ⟨X, hXl, HZ⟩ := ex28
  have hu28 := Try.underlying23
  have h1 := fun W => Public_all W k id q seed hid
  have h2 := fun W => RPublic_all W k id q seed
  have h3 := fun W => Sign_all W k id q seed msg hid
  have h4 := fun W => RSign_all W k id q seed msg
  have hl := pubV_length k id q seed
  generalize (pubV k id q seed).1 = A at h1 h2 hl
  generalize (pubV k id q seed).2 = E at h1 h2
  generalize (signV k id q seed msg).1 = S at h3 h4
  generalize (signV k id q seed msg).2 = F at h3 h4
  have H1 := Lib.hid h1; have H2 := Lib.hid h2; have H3 := Lib.hid h3; have H4 := Lib.hid h4
  clear h1 h2 h3 h4
  have PT := Lib.hid (Turn.refl (fun _ => False) w)
  go_enter Try.func3, Try.ntmps3
  go_wp2_with fail
  refine (H1.out _).mono ?_
  rintro e w1 ⟨rfl, t1⟩
  have PT := Lib.hid (PT.out.pure t1)
  clear t1
  go_wp2_with (refine wpList_allocZ rfl 23 rfl X HZ.out ?_)
  intro g11 x2 e2 c2 v2 s2
  have lg11 : w.heap.size ≤ g11 := by have := PT.out.size; omega
  clear e2
  go_wp2_with (refine wpList_store_blk rfl 23 _ _ rfl g11 _ (u8s A) _ rfl rfl c2 (size28 hXl hl) (info28_l hl) (u8s_one _) ?_)
  intro y2 d2 u2 _
  have PT := Lib.hid ((PT.out.pure v2).trans u2 fun q hq e => by omega : Pure w y2); have D11 := Lib.hid d2
  clear c2 v2 s2 d2 u2
  go_wp2_with fail
  refine (H2.out _).mono ?_
  rintro e w3 ⟨rfl, t3⟩
  have PT := Lib.hid (PT.out.pure t3)
  have D11 := Lib.hid (t3.obj D11.out (fun e => e))
  clear t3
  go_wp2_with (refine wpList_allocZ rfl 23 rfl X HZ.out ?_)
  intro g13 x4 e4 c4 v4 s4
  have lg13 : w.heap.size ≤ g13 := by have := PT.out.size; omega
  have m11g13 : g11 < g13 := by have := (Array.getElem?_eq_some_iff.1 D11.out).1; omega
  clear e4
  go_wp2_with (refine wpList_store_blk rfl 23 _ _ rfl g13 _ (u8s A) _ rfl rfl c4 (size28 hXl hl) (info28_l hl) (u8s_one _) ?_)
  intro y4 d4 u4 _
  have PT := Lib.hid ((PT.out.pure v4).trans u4 fun q hq e => by omega : Pure w y4); have D13 := Lib.hid d4; have D11 := Lib.hid (u4.obj (v4.obj D11.out (fun e => e)) (by omega))
  clear c4 v4 s4 d4 u4
  go_wp2_with fail
  refine (H3.out _).mono ?_
  rintro e w5 ⟨rfl, t5⟩
  have PT := Lib.hid (PT.out.pure t5)
  have D11 := Lib.hid (t5.obj D11.out (fun e => e))
  have D13 := Lib.hid (t5.obj D13.out (fun e => e))
  clear t5
  go_wp2_with fail
  refine (H4.out _).mono ?_
  rintro e w6 ⟨rfl, t6⟩
  have PT := Lib.hid (PT.out.pure t6)
  have D11 := Lib.hid (t6.obj D11.out (fun e => e))
  have D13 := Lib.hid (t6.obj D13.out (fun e => e))
  clear t6
  have E11 := Lib.hid (range_of_row D11.out); have E13 := Lib.hid (range_of_row D13.out)
  clear H1 H2 H3 H4 D11 D13
  go_wp2_with (first | (refine wpList_load_mid_w4 (by rfl) 23 _ rfl g11 0 rfl (u8s A) _ E11.out hu28 rfl (info28_l hl) ?_) | (refine wpList_load_mid_w4 (by rfl) 23 _ rfl g13 0 rfl (u8s A) _ E13.out hu28 rfl (info28_l hl) ?_) | (refine wpList_same28 (by rfl) _ _ rfl A hl rfl rfl ?_))
  refine (Num9_any _ E).mono ?_
  rintro e wn ⟨rfl, rfl⟩
  go_wp2_with (first | (refine wpList_load_mid_w4 (by rfl) 23 _ rfl g11 0 rfl (u8s A) _ E11.out hu28 rfl (info28_l hl) ?_) | (refine wpList_load_mid_w4 (by rfl) 23 _ rfl g13 0 rfl (u8s A) _ E13.out hu28 rfl (info28_l hl) ?_) | (refine wpList_same28 (by rfl) _ _ rfl A hl rfl rfl ?_))
  refine (Num9_any _ F).mono ?_
  rintro e wn ⟨rfl, rfl⟩
  go_wp2_with fail
  refine (awake4 _).mono ?_
  rintro e w9 ⟨rfl, t9⟩
  have PT := Lib.hid (PT.out.pure t9)
  clear t9
  go_wp2
  go_ret
  exact ⟨rfl, PT.out⟩

set_option maxRecDepth 100000 in
set_option maxHeartbeats 4000000 in
theorem OtsCandidates_any (id : List UInt8) (q : Int) (msg sign : List UInt8) (hid : id.length ≤ 140737488351232) (hsg : sign.length ≤ 140737488351232) (w : World) : Calls Try.prog 4 #[.string (bstr id), .int .i64 q, .string (bstr msg), .string (bstr sign)] w fun e w' => e = .returned (.bool true) ∧ Pure w w' := by
  obtain ⟨X, hXl, HZ⟩ := ex28
  have hu28 := Try.underlying23
  have h1 := fun W => Candidate_all W id q msg sign hid hsg
  have h2 := fun W => RCandidate_all W id q msg sign hsg
  have hl := candV_length id q msg sign
  generalize (candV id q msg sign).1 = A at h1 h2 hl
  generalize (candV id q msg sign).2 = E at h1 h2
  have H1 := Lib.hid h1; have H2 := Lib.hid h2
  clear h1 h2
  have PT := Lib.hid (Turn.refl (fun _ => False) w)
  go_enter Try.func4, Try.ntmps4
  go_wp2_with fail
  refine (H1.out _).mono ?_
  rintro e w1 ⟨rfl, t1⟩
  have PT := Lib.hid (PT.out.pure t1)
  clear t1
  go_wp2_with (refine wpList_allocZ rfl 23 rfl X HZ.out ?_)
  intro g9 x2 e2 c2 v2 s2
  have lg9 : w.heap.size ≤ g9 := by have := PT.out.size; omega
  clear e2
  go_wp2_with (refine wpList_store_blk rfl 23 _ _ rfl g9 _ (u8s A) _ rfl rfl c2 (size28 hXl hl) (info28_l hl) (u8s_one _) ?_)
  intro y2 d2 u2 _
  have PT := Lib.hid ((PT.out.pure v2).trans u2 fun q hq e => by omega : Pure w y2); have D9 := Lib.hid d2
  clear c2 v2 s2 d2 u2
  go_wp2_with fail
  refine (H2.out _).mono ?_
  rintro e w3 ⟨rfl, t3⟩
  have PT := Lib.hid (PT.out.pure t3)
  have D9 := Lib.hid (t3.obj D9.out (fun e => e))
  clear t3
  go_wp2_with (refine wpList_allocZ rfl 23 rfl X HZ.out ?_)
  intro g11 x4 e4 c4 v4 s4
  have lg11 : w.heap.size ≤ g11 := by have := PT.out.size; omega
  have m9g11 : g9 < g11 := by have := (Array.getElem?_eq_some_iff.1 D9.out).1; omega
  clear e4
  go_wp2_with (refine wpList_store_blk rfl 23 _ _ rfl g11 _ (u8s A) _ rfl rfl c4 (size28 hXl hl) (info28_l hl) (u8s_one _) ?_)
  intro y4 d4 u4 _
  have PT := Lib.hid ((PT.out.pure v4).trans u4 fun q hq e => by omega : Pure w y4); have D11 := Lib.hid d4; have D9 := Lib.hid (u4.obj (v4.obj D9.out (fun e => e)) (by omega))
  clear c4 v4 s4 d4 u4
  have E9 := Lib.hid (range_of_row D9.out); have E11 := Lib.hid (range_of_row D11.out)
  clear H1 H2 D9 D11
  go_wp2_with (first | (refine wpList_load_mid_w4 (by rfl) 23 _ rfl g9 0 rfl (u8s A) _ E9.out hu28 rfl (info28_l hl) ?_) | (refine wpList_load_mid_w4 (by rfl) 23 _ rfl g11 0 rfl (u8s A) _ E11.out hu28 rfl (info28_l hl) ?_) | (refine wpList_same28 (by rfl) _ _ rfl A hl rfl rfl ?_))
  refine (Num9_any _ E).mono ?_
  rintro e wn ⟨rfl, rfl⟩
  go_wp2_with fail
  refine (awake4 _).mono ?_
  rintro e w9 ⟨rfl, t9⟩
  have PT := Lib.hid (PT.out.pure t9)
  clear t9
  go_wp2
  go_ret
  exact ⟨rfl, PT.out⟩

theorem and32 (x : Int) : ∃ H : Nat, H ≤ 4294967295 ∧ bits .and .i64 x 4294967295 = (H : Int) := by
  refine ⟨(BitVec.ofInt 64 x &&& BitVec.ofInt 64 4294967295).toNat, ?_, ?_⟩
  · rw [BitVec.toNat_and]
    exact Nat.le_trans Nat.and_le_right (by decide)
  · have h : (BitVec.ofInt 64 x &&& BitVec.ofInt 64 4294967295).toNat ≤ 4294967295 := by
      rw [BitVec.toNat_and]
      exact Nat.le_trans Nat.and_le_right (by decide)
    show IntKind.i64.wrap (((BitVec.ofInt 64 x &&& BitVec.ofInt 64 4294967295).toNat : Nat) : Int) = _
    exact IntWalk.i64_in _ (by omega)
theorem otsSignV_kind4 (head seed msg : List UInt8) : kindSV (otsSignV 4 8 34 0 head seed msg) = (4, true) ∧ (otsSignV 4 8 34 0 head seed msg).length = 1124 := by
  have hc : (otsCV head seed).length = 32 := shaV_length _
  rw [otsSignV, List.append_assoc]
  have hl := chainsV_length head (fun _ => 0) (fun i => (digitsV 8 34 0 (otsQV head (otsCV head seed) msg)).getD i 0) (fun i => startV head i seed) 34 (fun i _ => startV_length _ _ _)
  generalize chainsV head (fun _ => 0) (fun i => (digitsV 8 34 0 (otsQV head (otsCV head seed) msg)).getD i 0) (fun i => startV head i seed) 34 = c at hl ⊢
  have hr : (otsCV head seed ++ c).length = 1120 := by rw [List.length_append, hc, hl]
  exact ⟨kindSV_sign4 _ hr, by rw [List.length_append, hr, beB_length]⟩

set_option maxRecDepth 100000 in
set_option maxHeartbeats 4000000 in
theorem OtsBack_any (wide : Bool) (id : List UInt8) (q : Int) (seed msg : List UInt8) (hid : id.length ≤ 140737488351232) (hsd : seed.length ≤ 140737488351232) (w : World) : Calls Try.prog 5 #[.bool wide, .string (bstr id), .int .i64 q, .string (bstr seed), .string (bstr msg)] w fun e w' => e = .returned (.bool true) ∧ Pure w w' := by
  obtain ⟨X, hXl, HZ⟩ := ex28
  have hu28 := Try.underlying23
  obtain ⟨m, hm, ham⟩ := and32 q
  have zm := bstr_size msg
  have hf1 := fun W => filled_any W id 16 (by decide) (by omega)
  have hf2 := fun W => filled_any W seed 32 (by decide) (by omega)
  have l1 := filledV_length id 16
  have l2 := filledV_length seed 32
  generalize filledV id 16 = FI at hf1 l1
  generalize filledV seed 32 = FS at hf2 l2
  have HF1 := Lib.hid hf1; have HF2 := Lib.hid hf2
  clear hf1 hf2
  have PT := Lib.hid (Turn.refl (fun _ => False) w)
  cases wide with
  | false =>
    have h1 := fun W => Public_3 W FI FS m l1 hm l2
    have hPl : (otsPubV 4 67 (placeV FI m) FS).length = 32 := shaV_length _
    by_cases hmsg : msg.length ≤ 65536
    · have h3 := fun W => Sign_3 W FI FS msg m l1 hm l2 hmsg
      have hb := ots_back 3 4 67 4 (placeV FI m) FS msg
      have hk := otsSignV_kind3 (placeV FI m) FS msg
      generalize otsSignV 3 4 67 4 (placeV FI m) FS msg = S at h3 hb hk
      have h5 := fun W => Candidate_3 W FI msg S m l1 hm hmsg hk.2 hk.1
      rw [hb] at h5
      generalize otsPubV 4 67 (placeV FI m) FS = P at h1 hPl h5
      have H1 := Lib.hid h1; have H3 := Lib.hid h3; have H5 := Lib.hid h5
      clear h1 h3 h5 hb hk
      go_enter Try.func5, Try.ntmps5
      go_wp2_with fail
      refine (awake4 _).mono ?_
      rintro e w0 ⟨rfl, t0⟩
      have PT := Lib.hid (PT.out.pure t0)
      clear t0
      go_wp2_with fail
      refine (HF1.out _).mono ?_
      rintro e w1 ⟨rfl, t1⟩
      have PT := Lib.hid (PT.out.pure t1)
      clear t1
      go_wp2_with fail
      refine (HF2.out _).mono ?_
      rintro e w2 ⟨rfl, t2⟩
      have PT := Lib.hid (PT.out.pure t2)
      clear t2
      go_wp2_with fail
      refine (H1.out _).mono ?_
      rintro e w3 ⟨rfl, t3⟩
      have PT := Lib.hid (PT.out.pure t3)
      clear t3
      go_wp2_with (refine wpList_allocZ rfl 23 rfl X HZ.out ?_)
      intro g15 x4 e4 c4 v4 s4
      have lg15 : w.heap.size ≤ g15 := by have := PT.out.size; omega
      clear e4
      go_wp2_with (refine wpList_store_blk rfl 23 _ _ rfl g15 _ (u8s P) _ rfl rfl c4 (size28 hXl hPl) (info28_l hPl) (u8s_one _) ?_)
      intro y4 d4 u4 _
      have PT := Lib.hid ((PT.out.pure v4).trans u4 fun q hq e => by omega : Pure w y4); have D15 := Lib.hid d4
      clear c4 v4 s4 d4 u4
      go_wp2_with fail
      refine (H3.out _).mono ?_
      rintro e w5 ⟨rfl, t5⟩
      have PT := Lib.hid (PT.out.pure t5)
      have D15 := Lib.hid (t5.obj D15.out (fun e => e))
      clear t5
      go_wp2_with fail
      refine (Num9_any _ 0).mono ?_
      rintro e wn ⟨rfl, rfl⟩
      go_wp2_with fail
      refine (H5.out _).mono ?_
      rintro e w6 ⟨rfl, t6⟩
      have PT := Lib.hid (PT.out.pure t6)
      have D15 := Lib.hid (t6.obj D15.out (fun e => e))
      clear t6
      go_wp2_with (refine wpList_allocZ rfl 23 rfl X HZ.out ?_)
      intro g19 x7 e7 c7 v7 s7
      have lg19 : w.heap.size ≤ g19 := by have := PT.out.size; omega
      have m15g19 : g15 < g19 := by have := (Array.getElem?_eq_some_iff.1 D15.out).1; omega
      clear e7
      go_wp2_with (refine wpList_store_blk rfl 23 _ _ rfl g19 _ (u8s P) _ rfl rfl c7 (size28 hXl hPl) (info28_l hPl) (u8s_one _) ?_)
      intro y7 d7 u7 _
      have PT := Lib.hid ((PT.out.pure v7).trans u7 fun q hq e => by omega : Pure w y7); have D19 := Lib.hid d7; have D15 := Lib.hid (u7.obj (v7.obj D15.out (fun e => e)) (by omega))
      clear c7 v7 s7 d7 u7
      go_wp2_with fail
      refine (H3.out _).mono ?_
      rintro e w8 ⟨rfl, t8⟩
      have PT := Lib.hid (PT.out.pure t8)
      have D15 := Lib.hid (t8.obj D15.out (fun e => e))
      have D19 := Lib.hid (t8.obj D19.out (fun e => e))
      clear t8
      have E15 := Lib.hid (range_of_row D15.out); have E19 := Lib.hid (range_of_row D19.out)
      clear H1 H3 H5 HF1 HF2 D15 D19
      go_wp2_with (first | (refine wpList_load_mid_w4 (by rfl) 23 _ rfl g15 0 rfl (u8s P) _ E15.out hu28 rfl (info28_l hPl) ?_) | (refine wpList_load_mid_w4 (by rfl) 23 _ rfl g19 0 rfl (u8s P) _ E19.out hu28 rfl (info28_l hPl) ?_) | (refine wpList_same28 (by rfl) _ _ rfl P hPl rfl rfl ?_))
      refine (Num9_any _ 0).mono ?_
      rintro e wn ⟨rfl, rfl⟩
      go_wp2_with (first | (refine wpList_load_mid_w4 (by rfl) 23 _ rfl g15 0 rfl (u8s P) _ E15.out hu28 rfl (info28_l hPl) ?_) | (refine wpList_load_mid_w4 (by rfl) 23 _ rfl g19 0 rfl (u8s P) _ E19.out hu28 rfl (info28_l hPl) ?_) | (refine wpList_same28 (by rfl) _ _ rfl P hPl rfl rfl ?_))
      refine (Num9_any _ 0).mono ?_
      rintro e wn ⟨rfl, rfl⟩
      go_wp2_with (first | (refine wpList_load_mid_w4 (by rfl) 23 _ rfl g15 0 rfl (u8s P) _ E15.out hu28 rfl (info28_l hPl) ?_) | (refine wpList_load_mid_w4 (by rfl) 23 _ rfl g19 0 rfl (u8s P) _ E19.out hu28 rfl (info28_l hPl) ?_) | (refine wpList_same28 (by rfl) _ _ rfl P hPl rfl rfl ?_))
      refine (Num9_any _ 0).mono ?_
      rintro e wn ⟨rfl, rfl⟩
      go_wp2
      go_ret
      exact ⟨rfl, PT.out⟩
    · have h3 := fun W => Sign_bad W 3 FI FS msg (m : Int) (by omega) (fun h => hmsg h.2.2.2)
      generalize otsPubV 4 67 (placeV FI m) FS = P at h1 hPl
      have H1 := Lib.hid h1; have H3 := Lib.hid h3
      have q1 : decide (65536 < (msg.length : Int)) = true := decide_eq_true (by omega)
      have q2 : decide (65536 < msg.length) = true := decide_eq_true (by omega)
      clear h1 h3
      go_enter Try.func5, Try.ntmps5
      go_wp2_with fail
      refine (awake4 _).mono ?_
      rintro e w0 ⟨rfl, t0⟩
      have PT := Lib.hid (PT.out.pure t0)
      clear t0
      go_wp2_with fail
      refine (HF1.out _).mono ?_
      rintro e w1 ⟨rfl, t1⟩
      have PT := Lib.hid (PT.out.pure t1)
      clear t1
      go_wp2_with fail
      refine (HF2.out _).mono ?_
      rintro e w2 ⟨rfl, t2⟩
      have PT := Lib.hid (PT.out.pure t2)
      clear t2
      go_wp2_with fail
      refine (H1.out _).mono ?_
      rintro e w3 ⟨rfl, t3⟩
      have PT := Lib.hid (PT.out.pure t3)
      clear t3
      go_wp2_with (refine wpList_allocZ rfl 23 rfl X HZ.out ?_)
      intro g15 x4 e4 c4 v4 s4
      have lg15 : w.heap.size ≤ g15 := by have := PT.out.size; omega
      clear e4
      go_wp2_with (refine wpList_store_blk rfl 23 _ _ rfl g15 _ (u8s P) _ rfl rfl c4 (size28 hXl hPl) (info28_l hPl) (u8s_one _) ?_)
      intro y4 d4 u4 _
      have PT := Lib.hid ((PT.out.pure v4).trans u4 fun q hq e => by omega : Pure w y4); have D15 := Lib.hid d4
      clear c4 v4 s4 d4 u4
      go_wp2_with fail
      refine (H3.out _).mono ?_
      rintro e w5 ⟨rfl, t5⟩
      have PT := Lib.hid (PT.out.pure t5)
      have D15 := Lib.hid (t5.obj D15.out (fun e => e))
      clear t5
      go_wp2_with fail
      refine (Num9_any _ 400).mono ?_
      rintro e wn ⟨rfl, rfl⟩
      go_wp2_with fail
      refine (Num9_any _ 400).mono ?_
      rintro e wn ⟨rfl, rfl⟩
      go_wp2
      go_ret
      exact ⟨rfl, PT.out⟩
  | true =>
    have h1 := fun W => Public_4 W FI FS m l1 hm l2
    have hPl : (otsPubV 8 34 (placeV FI m) FS).length = 32 := shaV_length _
    by_cases hmsg : msg.length ≤ 65536
    · have h3 := fun W => Sign_4 W FI FS msg m l1 hm l2 hmsg
      have hb := ots_back 4 8 34 0 (placeV FI m) FS msg
      have hk := otsSignV_kind4 (placeV FI m) FS msg
      generalize otsSignV 4 8 34 0 (placeV FI m) FS msg = S at h3 hb hk
      have h5 := fun W => Candidate_4 W FI msg S m l1 hm hmsg hk.2 hk.1
      rw [hb] at h5
      generalize otsPubV 8 34 (placeV FI m) FS = P at h1 hPl h5
      have H1 := Lib.hid h1; have H3 := Lib.hid h3; have H5 := Lib.hid h5
      clear h1 h3 h5 hb hk
      go_enter Try.func5, Try.ntmps5
      go_wp2_with fail
      refine (awake4 _).mono ?_
      rintro e w0 ⟨rfl, t0⟩
      have PT := Lib.hid (PT.out.pure t0)
      clear t0
      go_wp2_with fail
      refine (HF1.out _).mono ?_
      rintro e w1 ⟨rfl, t1⟩
      have PT := Lib.hid (PT.out.pure t1)
      clear t1
      go_wp2_with fail
      refine (HF2.out _).mono ?_
      rintro e w2 ⟨rfl, t2⟩
      have PT := Lib.hid (PT.out.pure t2)
      clear t2
      go_wp2_with fail
      refine (H1.out _).mono ?_
      rintro e w3 ⟨rfl, t3⟩
      have PT := Lib.hid (PT.out.pure t3)
      clear t3
      go_wp2_with (refine wpList_allocZ rfl 23 rfl X HZ.out ?_)
      intro g15 x4 e4 c4 v4 s4
      have lg15 : w.heap.size ≤ g15 := by have := PT.out.size; omega
      clear e4
      go_wp2_with (refine wpList_store_blk rfl 23 _ _ rfl g15 _ (u8s P) _ rfl rfl c4 (size28 hXl hPl) (info28_l hPl) (u8s_one _) ?_)
      intro y4 d4 u4 _
      have PT := Lib.hid ((PT.out.pure v4).trans u4 fun q hq e => by omega : Pure w y4); have D15 := Lib.hid d4
      clear c4 v4 s4 d4 u4
      go_wp2_with fail
      refine (H3.out _).mono ?_
      rintro e w5 ⟨rfl, t5⟩
      have PT := Lib.hid (PT.out.pure t5)
      have D15 := Lib.hid (t5.obj D15.out (fun e => e))
      clear t5
      go_wp2_with fail
      refine (Num9_any _ 0).mono ?_
      rintro e wn ⟨rfl, rfl⟩
      go_wp2_with fail
      refine (H5.out _).mono ?_
      rintro e w6 ⟨rfl, t6⟩
      have PT := Lib.hid (PT.out.pure t6)
      have D15 := Lib.hid (t6.obj D15.out (fun e => e))
      clear t6
      go_wp2_with (refine wpList_allocZ rfl 23 rfl X HZ.out ?_)
      intro g19 x7 e7 c7 v7 s7
      have lg19 : w.heap.size ≤ g19 := by have := PT.out.size; omega
      have m15g19 : g15 < g19 := by have := (Array.getElem?_eq_some_iff.1 D15.out).1; omega
      clear e7
      go_wp2_with (refine wpList_store_blk rfl 23 _ _ rfl g19 _ (u8s P) _ rfl rfl c7 (size28 hXl hPl) (info28_l hPl) (u8s_one _) ?_)
      intro y7 d7 u7 _
      have PT := Lib.hid ((PT.out.pure v7).trans u7 fun q hq e => by omega : Pure w y7); have D19 := Lib.hid d7; have D15 := Lib.hid (u7.obj (v7.obj D15.out (fun e => e)) (by omega))
      clear c7 v7 s7 d7 u7
      go_wp2_with fail
      refine (H3.out _).mono ?_
      rintro e w8 ⟨rfl, t8⟩
      have PT := Lib.hid (PT.out.pure t8)
      have D15 := Lib.hid (t8.obj D15.out (fun e => e))
      have D19 := Lib.hid (t8.obj D19.out (fun e => e))
      clear t8
      have E15 := Lib.hid (range_of_row D15.out); have E19 := Lib.hid (range_of_row D19.out)
      clear H1 H3 H5 HF1 HF2 D15 D19
      go_wp2_with (first | (refine wpList_load_mid_w4 (by rfl) 23 _ rfl g15 0 rfl (u8s P) _ E15.out hu28 rfl (info28_l hPl) ?_) | (refine wpList_load_mid_w4 (by rfl) 23 _ rfl g19 0 rfl (u8s P) _ E19.out hu28 rfl (info28_l hPl) ?_) | (refine wpList_same28 (by rfl) _ _ rfl P hPl rfl rfl ?_))
      refine (Num9_any _ 0).mono ?_
      rintro e wn ⟨rfl, rfl⟩
      go_wp2_with (first | (refine wpList_load_mid_w4 (by rfl) 23 _ rfl g15 0 rfl (u8s P) _ E15.out hu28 rfl (info28_l hPl) ?_) | (refine wpList_load_mid_w4 (by rfl) 23 _ rfl g19 0 rfl (u8s P) _ E19.out hu28 rfl (info28_l hPl) ?_) | (refine wpList_same28 (by rfl) _ _ rfl P hPl rfl rfl ?_))
      refine (Num9_any _ 0).mono ?_
      rintro e wn ⟨rfl, rfl⟩
      go_wp2_with (first | (refine wpList_load_mid_w4 (by rfl) 23 _ rfl g15 0 rfl (u8s P) _ E15.out hu28 rfl (info28_l hPl) ?_) | (refine wpList_load_mid_w4 (by rfl) 23 _ rfl g19 0 rfl (u8s P) _ E19.out hu28 rfl (info28_l hPl) ?_) | (refine wpList_same28 (by rfl) _ _ rfl P hPl rfl rfl ?_))
      refine (Num9_any _ 0).mono ?_
      rintro e wn ⟨rfl, rfl⟩
      go_wp2
      go_ret
      exact ⟨rfl, PT.out⟩
    · have h3 := fun W => Sign_bad W 4 FI FS msg (m : Int) (by omega) (fun h => hmsg h.2.2.2)
      generalize otsPubV 8 34 (placeV FI m) FS = P at h1 hPl
      have H1 := Lib.hid h1; have H3 := Lib.hid h3
      have q1 : decide (65536 < (msg.length : Int)) = true := decide_eq_true (by omega)
      have q2 : decide (65536 < msg.length) = true := decide_eq_true (by omega)
      clear h1 h3
      go_enter Try.func5, Try.ntmps5
      go_wp2_with fail
      refine (awake4 _).mono ?_
      rintro e w0 ⟨rfl, t0⟩
      have PT := Lib.hid (PT.out.pure t0)
      clear t0
      go_wp2_with fail
      refine (HF1.out _).mono ?_
      rintro e w1 ⟨rfl, t1⟩
      have PT := Lib.hid (PT.out.pure t1)
      clear t1
      go_wp2_with fail
      refine (HF2.out _).mono ?_
      rintro e w2 ⟨rfl, t2⟩
      have PT := Lib.hid (PT.out.pure t2)
      clear t2
      go_wp2_with fail
      refine (H1.out _).mono ?_
      rintro e w3 ⟨rfl, t3⟩
      have PT := Lib.hid (PT.out.pure t3)
      clear t3
      go_wp2_with (refine wpList_allocZ rfl 23 rfl X HZ.out ?_)
      intro g15 x4 e4 c4 v4 s4
      have lg15 : w.heap.size ≤ g15 := by have := PT.out.size; omega
      clear e4
      go_wp2_with (refine wpList_store_blk rfl 23 _ _ rfl g15 _ (u8s P) _ rfl rfl c4 (size28 hXl hPl) (info28_l hPl) (u8s_one _) ?_)
      intro y4 d4 u4 _
      have PT := Lib.hid ((PT.out.pure v4).trans u4 fun q hq e => by omega : Pure w y4); have D15 := Lib.hid d4
      clear c4 v4 s4 d4 u4
      go_wp2_with fail
      refine (H3.out _).mono ?_
      rintro e w5 ⟨rfl, t5⟩
      have PT := Lib.hid (PT.out.pure t5)
      have D15 := Lib.hid (t5.obj D15.out (fun e => e))
      clear t5
      go_wp2_with fail
      refine (Num9_any _ 400).mono ?_
      rintro e wn ⟨rfl, rfl⟩
      go_wp2_with fail
      refine (Num9_any _ 400).mono ?_
      rintro e wn ⟨rfl, rfl⟩
      go_wp2
      go_ret
      exact ⟨rfl, PT.out⟩
end Go.Proofs.Ytmifchdmlbcclaa
