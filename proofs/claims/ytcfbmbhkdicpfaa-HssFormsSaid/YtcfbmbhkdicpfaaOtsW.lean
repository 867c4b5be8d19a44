/- Chapter 4, the reference: what may not be. -/
import Derived.Test.YtcfbmbhkdicpfaaOtsT
namespace Go.Proofs.Ytcfbmbhkdicpfaa
open Go.RowKit

theorem parV_zero (k : Int) : (((parV k).1 : Int) == 0) = !(kindB k) := by
  unfold parV kindB
  by_cases h3 : k = 3
  · subst h3; decide
  · by_cases h4 : k = 4
    · subst h4; decide
    · rw [if_neg h3, if_neg h4]; simp [h3, h4]
theorem parV_le (k : Int) : (parV k).2.1 ≤ 67 := by
  unfold parV
  split
  · decide
  · split <;> decide
theorem rnumV_kind (s : List UInt8) : (kindSV s).2 = (kindB (rnumV s 0) && decide (36 + 32 * (parV (rnumV s 0)).2.1 = s.length)) := by
  unfold kindSV rnumV
  by_cases h : s.length < 4
  · rw [if_pos h, if_neg (by omega)]
    rfl
  · rw [if_neg h, if_pos (by omega), List.drop_zero]

set_option maxRecDepth 100000 in
set_option maxHeartbeats 2000000 in
theorem ROtsPublic_bad (w : World) (k : Int) (id seed : List UInt8) (q : Int) (hbad : ¬ (kindB k = true ∧ placeB id q = true ∧ seed.length = 32)) :
    Calls Try.prog 126 #[.int .i64 k, .string (bstr id), .int .i64 q, .string (bstr seed)] w fun e w' => e = .returned (.tuple #[hv (List.replicate 32 0), .int .i64 400]) ∧ Pure w w' := by
  obtain ⟨X, hXl, HZ⟩ := ex28
  have hpr := fun W => Params_any W k
  have hmy := fun W => otsMay_any W id q
  have zs := bstr_size seed
  have q0 := parV_zero k
  generalize (parV k).1 = W1 at hpr q0
  generalize (parV k).2.1 = W2 at hpr
  generalize (parV k).2.2 = W3 at hpr
  generalize kindB k = KB at hbad q0
  generalize placeB id q = PB at hmy hbad
  obtain ⟨n, hn⟩ : ∃ n, n = seed.length := ⟨_, rfl⟩
  rw [← hn] at zs hbad
  clear hn
  have q1 : ((W1 : Int) == 0) = !KB := q0
  have q2 : (W1 == 0) = !KB := by rw [← q1]; cases W1 <;> rfl
  clear q0
  have HPR := Lib.hid hpr; have HMY := Lib.hid hmy
  cases KB with
  | false =>
    clear hpr hmy hbad
    rw [Bool.not_false] at q1 q2
    go_enter Try.func126, Try.ntmps126
    go_wp2_with (refine wpList_allocZ rfl 62 rfl X HZ.out ?_)
    intro g8 w1 e1 c1 t1 s1
    have l8 : w.heap.size ≤ g8 := by omega
    clear e1
    have D8 := Lib.hid c1; have PT := Lib.hid t1
    clear c1 t1 s1
    go_wp2_with fail
    refine (HPR.out _).mono ?_
    rintro e w3 ⟨rfl, e3⟩
    rw [e3]
    clear e3
    go_wp2_with (first | (refine wpList_buildH0 rfl rfl ?_) | (refine wpList_store_blk rfl 62 _ _ rfl g8 _ (u8s (List.replicate 32 0)) _ rfl rfl D8.out (size28 hXl (by simp)) (info28_l (by simp)) (u8s_one _) ?_))
    intro w8 c8 t8 _
    have hO := Lib.hid c8
    have PF := Lib.hid (PT.out.trans t8 fun x hx e => by omega : Pure w w8)
    clear c8 t8
    go_wp2
    exact bodyPost_ret (v := .tuple #[hv (List.replicate 32 0), .int .i64 400]) (results_cell2 Try.results126 _ _ g8 _ (u8s (List.replicate 32 0)).toArray _ _ rfl hO.out Try.underlying62 rfl (info28_a (by simp))) rfl ⟨rfl, PF.out⟩
  | true =>
    rw [Bool.not_true] at q1 q2
    cases PB with
    | false =>
      clear hpr hmy hbad
      go_enter Try.func126, Try.ntmps126
      go_wp2_with (refine wpList_allocZ rfl 62 rfl X HZ.out ?_)
      intro g8 w1 e1 c1 t1 s1
      have l8 : w.heap.size ≤ g8 := by omega
      clear e1
      have D8 := Lib.hid c1; have PT := Lib.hid t1
      clear c1 t1 s1
      go_wp2_with fail
      refine (HPR.out _).mono ?_
      rintro e w3 ⟨rfl, e3⟩
      rw [e3]
      clear e3
      go_wp2_with fail
      refine (HMY.out _).mono ?_
      rintro e w3 ⟨rfl, e3⟩
      rw [e3]
      clear e3
      go_wp2_with (first | (refine wpList_buildH0 rfl rfl ?_) | (refine wpList_store_blk rfl 62 _ _ rfl g8 _ (u8s (List.replicate 32 0)) _ rfl rfl D8.out (size28 hXl (by simp)) (info28_l (by simp)) (u8s_one _) ?_))
      intro w8 c8 t8 _
      have hO := Lib.hid c8
      have PF := Lib.hid (PT.out.trans t8 fun x hx e => by omega : Pure w w8)
      clear c8 t8
      go_wp2
      exact bodyPost_ret (v := .tuple #[hv (List.replicate 32 0), .int .i64 400]) (results_cell2 Try.results126 _ _ g8 _ (u8s (List.replicate 32 0)).toArray _ _ rfl hO.out Try.underlying62 rfl (info28_a (by simp))) rfl ⟨rfl, PF.out⟩
    | true =>
      have q3 : ((n : Int) != 32) = true := by have : n ≠ 32 := fun h => hbad ⟨rfl, rfl, h⟩; simp; omega
      have q4 : (n != 32) = true := by have : n ≠ 32 := fun h => hbad ⟨rfl, rfl, h⟩; simp; omega
      clear hpr hmy hbad
      go_enter Try.func126, Try.ntmps126
      go_wp2_with (refine wpList_allocZ rfl 62 rfl X HZ.out ?_)
      intro g8 w1 e1 c1 t1 s1
      have l8 : w.heap.size ≤ g8 := by omega
      clear e1
      have D8 := Lib.hid c1; have PT := Lib.hid t1
      clear c1 t1 s1
      go_wp2_with fail
      refine (HPR.out _).mono ?_
      rintro e w3 ⟨rfl, e3⟩
      rw [e3]
      clear e3
      go_wp2_with fail
      refine (HMY.out _).mono ?_
      rintro e w3 ⟨rfl, e3⟩
      rw [e3]
      clear e3
      go_wp2_with (first | (refine wpList_buildH0 rfl rfl ?_) | (refine wpList_store_blk rfl 62 _ _ rfl g8 _ (u8s (List.replicate 32 0)) _ rfl rfl D8.out (size28 hXl (by simp)) (info28_l (by simp)) (u8s_one _) ?_))
      intro w8 c8 t8 _
      have hO := Lib.hid c8
      have PF := Lib.hid (PT.out.trans t8 fun x hx e => by omega : Pure w w8)
      clear c8 t8
      go_wp2
      exact bodyPost_ret (v := .tuple #[hv (List.replicate 32 0), .int .i64 400]) (results_cell2 Try.results126 _ _ g8 _ (u8s (List.replicate 32 0)).toArray _ _ rfl hO.out Try.underlying62 rfl (info28_a (by simp))) rfl ⟨rfl, PF.out⟩

set_option maxRecDepth 100000 in
set_option maxHeartbeats 2000000 in
theorem ROtsSign_bad (w : World) (k : Int) (id seed msg : List UInt8) (q : Int) (hbad : ¬ (kindB k = true ∧ placeB id q = true ∧ seed.length = 32 ∧ msg.length ≤ 65536)) :
    Calls Try.prog 89 #[.int .i64 k, .string (bstr id), .int .i64 q, .string (bstr seed), .string (bstr msg)] w fun e w' => e = .returned (.tuple #[.string ⟨#[]⟩, .int .i64 400]) ∧ Pure w w' := by
  have hpr := fun W => Params_any W k
  have hmy := fun W => otsMay_any W id q
  have zs := bstr_size seed
  have q0 := parV_zero k
  generalize (parV k).1 = W1 at hpr q0
  generalize (parV k).2.1 = W2 at hpr
  generalize (parV k).2.2 = W3 at hpr
  generalize kindB k = KB at hbad q0
  generalize placeB id q = PB at hmy hbad
  obtain ⟨n, hn⟩ : ∃ n, n = seed.length := ⟨_, rfl⟩
  rw [← hn] at zs hbad
  clear hn
  have zm := bstr_size msg
  obtain ⟨m, hm⟩ : ∃ m, m = msg.length := ⟨_, rfl⟩
  rw [← hm] at zm hbad
  clear hm
  have q1 : ((W1 : Int) == 0) = !KB := q0
  have q2 : (W1 == 0) = !KB := by rw [← q1]; cases W1 <;> rfl
  clear q0
  have HPR := Lib.hid hpr; have HMY := Lib.hid hmy
  cases KB with
  | false =>
    clear hpr hmy hbad
    rw [Bool.not_false] at q1 q2
    go_enter Try.func89, Try.ntmps89
    have PT := Lib.hid (Turn.refl (fun _ => False) w)
    go_wp2_with fail
    refine (HPR.out _).mono ?_
    rintro e w3 ⟨rfl, e3⟩
    rw [e3]
    clear e3
    go_wp2
    go_ret2
    exact ⟨rfl, PT.out⟩
  | true =>
    rw [Bool.not_true] at q1 q2
    cases PB with
    | false =>
      clear hpr hmy hbad
      go_enter Try.func89, Try.ntmps89
      have PT := Lib.hid (Turn.refl (fun _ => False) w)
      go_wp2_with fail
      refine (HPR.out _).mono ?_
      rintro e w3 ⟨rfl, e3⟩
      rw [e3]
      clear e3
      go_wp2_with fail
      refine (HMY.out _).mono ?_
      rintro e w3 ⟨rfl, e3⟩
      rw [e3]
      clear e3
      go_wp2
      go_ret2
      exact ⟨rfl, PT.out⟩
    | true =>
      by_cases h32 : n = 32
      · have q3 : ((n : Int) != 32) = false := by rw [h32]; rfl
        have q4 : (n != 32) = false := by rw [h32]; rfl
        have hm65 : ¬ m ≤ 65536 := fun h => hbad ⟨rfl, rfl, h32, h⟩
        have q5 : decide (65536 < (m : Int)) = true := decide_eq_true (by omega)
        have q6 : decide (65536 < m) = true := decide_eq_true (by omega)
        clear hpr hmy hbad h32 hm65
        go_enter Try.func89, Try.ntmps89
        have PT := Lib.hid (Turn.refl (fun _ => False) w)
        go_wp2_with fail
        refine (HPR.out _).mono ?_
        rintro e w3 ⟨rfl, e3⟩
        rw [e3]
        clear e3
        go_wp2_with fail
        refine (HMY.out _).mono ?_
        rintro e w3 ⟨rfl, e3⟩
        rw [e3]
        clear e3
        go_wp2
        go_ret2
        exact ⟨rfl, PT.out⟩
      · have q3 : ((n : Int) != 32) = true := by simp; omega
        have q4 : (n != 32) = true := by simp; omega
        clear hpr hmy hbad h32
        go_enter Try.func89, Try.ntmps89
        have PT := Lib.hid (Turn.refl (fun _ => False) w)
        go_wp2_with fail
        refine (HPR.out _).mono ?_
        rintro e w3 ⟨rfl, e3⟩
        rw [e3]
        clear e3
        go_wp2_with fail
        refine (HMY.out _).mono ?_
        rintro e w3 ⟨rfl, e3⟩
        rw [e3]
        clear e3
        go_wp2
        go_ret2
        exact ⟨rfl, PT.out⟩

set_option maxRecDepth 100000 in
set_option maxHeartbeats 2000000 in
theorem RCandidate_bad (w : World) (id msg sign : List UInt8) (q : Int) (hsg : sign.length ≤ 140737488351232) (hbad : ¬ ((kindSV sign).2 = true ∧ placeB id q = true ∧ msg.length ≤ 65536)) :
    Calls Try.prog 93 #[.string (bstr id), .int .i64 q, .string (bstr msg), .string (bstr sign)] w fun e w' => e = .returned (.tuple #[hv (List.replicate 32 0), .int .i64 400]) ∧ Pure w w' := by
  obtain ⟨X, hXl, HZ⟩ := ex28
  have hrn : ∀ W, Calls Try.prog 44 #[.string (bstr sign), .int .i64 0] W fun e w' => e = .returned (.int .i64 (rnumV sign 0)) ∧ Pure W w' := fun W => rnum_any W sign 0 hsg (by omega)
  rw [rnumV_kind] at hbad
  generalize rnumV sign 0 = k at hrn hbad
  have hpr := fun W => Params_any W k
  have hmy := fun W => otsMay_any W id q
  have zs := bstr_size sign
  have q0 := parV_zero k
  have hle := parV_le k
  generalize (parV k).1 = W1 at hpr q0
  generalize (parV k).2.1 = W2 at hpr hbad hle
  generalize (parV k).2.2 = W3 at hpr
  generalize kindB k = KB at hbad q0
  generalize placeB id q = PB at hmy hbad
  obtain ⟨n, hn⟩ : ∃ n, n = sign.length := ⟨_, rfl⟩
  rw [← hn] at zs hbad
  clear hn
  have zm := bstr_size msg
  obtain ⟨m, hm⟩ : ∃ m, m = msg.length := ⟨_, rfl⟩
  rw [← hm] at zm hbad
  clear hm
  have i1 : IntKind.i64.wrap (32 * (W2 : Int)) = 32 * (W2 : Int) := IntWalk.i64_in _ (by omega)
  have i2 : IntKind.i64.wrap (36 + 32 * (W2 : Int)) = 36 + 32 * (W2 : Int) := IntWalk.i64_in _ (by omega)
  have q1 : ((W1 : Int) == 0) = !KB := q0
  have q2 : (W1 == 0) = !KB := by rw [← q1]; cases W1 <;> rfl
  clear q0
  have HRN := Lib.hid hrn; have HPR := Lib.hid hpr; have HMY := Lib.hid hmy
  clear hrn
  cases KB with
  | false =>
    clear hpr hmy hbad
    rw [Bool.not_false] at q1 q2
    go_enter Try.func93, Try.ntmps93
    go_wp2_with (refine wpList_allocZ rfl 62 rfl X HZ.out ?_)
    intro g8 w1 e1 c1 t1 s1
    have l8 : w.heap.size ≤ g8 := by omega
    clear e1
    have D8 := Lib.hid c1; have PT := Lib.hid t1
    clear c1 t1 s1
    go_wp2_with fail
    refine (HRN.out _).mono ?_
    rintro e w2 ⟨rfl, t2⟩
    have PT := Lib.hid (PT.out.pure t2)
    have D8 := Lib.hid (t2.obj D8.out (fun e => e))
    clear t2
    go_wp2_with fail
    refine (HPR.out _).mono ?_
    rintro e w3 ⟨rfl, e3⟩
    rw [e3]
    clear e3
    go_wp2_with (first | (refine wpList_buildH0 rfl rfl ?_) | (refine wpList_store_blk rfl 62 _ _ rfl g8 _ (u8s (List.replicate 32 0)) _ rfl rfl D8.out (size28 hXl (by simp)) (info28_l (by simp)) (u8s_one _) ?_))
    intro w8 c8 t8 _
    have hO := Lib.hid c8
    have PF := Lib.hid (PT.out.trans t8 fun x hx e => by omega : Pure w w8)
    clear c8 t8
    go_wp2
    exact bodyPost_ret (v := .tuple #[hv (List.replicate 32 0), .int .i64 400]) (results_cell2 Try.results93 _ _ g8 _ (u8s (List.replicate 32 0)).toArray _ _ rfl hO.out Try.underlying62 rfl (info28_a (by simp))) rfl ⟨rfl, PF.out⟩
  | true =>
    rw [Bool.not_true] at q1 q2
    cases PB with
    | false =>
      clear hpr hmy hbad
      go_enter Try.func93, Try.ntmps93
      go_wp2_with (refine wpList_allocZ rfl 62 rfl X HZ.out ?_)
      intro g8 w1 e1 c1 t1 s1
      have l8 : w.heap.size ≤ g8 := by omega
      clear e1
      have D8 := Lib.hid c1; have PT := Lib.hid t1
      clear c1 t1 s1
      go_wp2_with fail
      refine (HRN.out _).mono ?_
      rintro e w2 ⟨rfl, t2⟩
      have PT := Lib.hid (PT.out.pure t2)
      have D8 := Lib.hid (t2.obj D8.out (fun e => e))
      clear t2
      go_wp2_with fail
      refine (HPR.out _).mono ?_
      rintro e w3 ⟨rfl, e3⟩
      rw [e3]
      clear e3
      go_wp2_with fail
      refine (HMY.out _).mono ?_
      rintro e w3 ⟨rfl, e3⟩
      rw [e3]
      clear e3
      go_wp2_with (first | (refine wpList_buildH0 rfl rfl ?_) | (refine wpList_store_blk rfl 62 _ _ rfl g8 _ (u8s (List.replicate 32 0)) _ rfl rfl D8.out (size28 hXl (by simp)) (info28_l (by simp)) (u8s_one _) ?_))
      intro w8 c8 t8 _
      have hO := Lib.hid c8
      have PF := Lib.hid (PT.out.trans t8 fun x hx e => by omega : Pure w w8)
      clear c8 t8
      go_wp2
      exact bodyPost_ret (v := .tuple #[hv (List.replicate 32 0), .int .i64 400]) (results_cell2 Try.results93 _ _ g8 _ (u8s (List.replicate 32 0)).toArray _ _ rfl hO.out Try.underlying62 rfl (info28_a (by simp))) rfl ⟨rfl, PF.out⟩
    | true =>
      by_cases hm : m ≤ 65536
      · have q5 : decide (65536 < (m : Int)) = false := decide_eq_false (by omega)
        have q6 : decide (65536 < m) = false := decide_eq_false (by omega)
        have hne : ¬ (36 + 32 * W2 = n) := fun h => hbad ⟨by rw [Bool.true_and]; exact decide_eq_true h, rfl, hm⟩
        have q7 : ((n : Int) != 36 + 32 * (W2 : Int)) = true := by simp; omega
        have q8 : (n != 36 + 32 * W2) = true := by simp; omega
        clear hpr hmy hbad hm hne
        go_enter Try.func93, Try.ntmps93
        go_wp2_with (refine wpList_allocZ rfl 62 rfl X HZ.out ?_)
        intro g8 w1 e1 c1 t1 s1
        have l8 : w.heap.size ≤ g8 := by omega
        clear e1
        have D8 := Lib.hid c1; have PT := Lib.hid t1
        clear c1 t1 s1
        go_wp2_with fail
        refine (HRN.out _).mono ?_
        rintro e w2 ⟨rfl, t2⟩
        have PT := Lib.hid (PT.out.pure t2)
        have D8 := Lib.hid (t2.obj D8.out (fun e => e))
        clear t2
        go_wp2_with fail
        refine (HPR.out _).mono ?_
        rintro e w3 ⟨rfl, e3⟩
        rw [e3]
        clear e3
        go_wp2_with fail
        refine (HMY.out _).mono ?_
        rintro e w3 ⟨rfl, e3⟩
        rw [e3]
        clear e3
        go_wp2_with (first | (refine wpList_buildH0 rfl rfl ?_) | (refine wpList_store_blk rfl 62 _ _ rfl g8 _ (u8s (List.replicate 32 0)) _ rfl rfl D8.out (size28 hXl (by simp)) (info28_l (by simp)) (u8s_one _) ?_))
        intro w8 c8 t8 _
        have hO := Lib.hid c8
        have PF := Lib.hid (PT.out.trans t8 fun x hx e => by omega : Pure w w8)
        clear c8 t8
        go_wp2
        exact bodyPost_ret (v := .tuple #[hv (List.replicate 32 0), .int .i64 400]) (results_cell2 Try.results93 _ _ g8 _ (u8s (List.replicate 32 0)).toArray _ _ rfl hO.out Try.underlying62 rfl (info28_a (by simp))) rfl ⟨rfl, PF.out⟩
      · have q5 : decide (65536 < (m : Int)) = true := decide_eq_true (by omega)
        have q6 : decide (65536 < m) = true := decide_eq_true (by omega)
        clear hpr hmy hbad hm
        go_enter Try.func93, Try.ntmps93
        go_wp2_with (refine wpList_allocZ rfl 62 rfl X HZ.out ?_)
        intro g8 w1 e1 c1 t1 s1
        have l8 : w.heap.size ≤ g8 := by omega
        clear e1
        have D8 := Lib.hid c1; have PT := Lib.hid t1
        clear c1 t1 s1
        go_wp2_with fail
        refine (HRN.out _).mono ?_
        rintro e w2 ⟨rfl, t2⟩
        have PT := Lib.hid (PT.out.pure t2)
        have D8 := Lib.hid (t2.obj D8.out (fun e => e))
        clear t2
        go_wp2_with fail
        refine (HPR.out _).mono ?_
        rintro e w3 ⟨rfl, e3⟩
        rw [e3]
        clear e3
        go_wp2_with fail
        refine (HMY.out _).mono ?_
        rintro e w3 ⟨rfl, e3⟩
        rw [e3]
        clear e3
        go_wp2_with (first | (refine wpList_buildH0 rfl rfl ?_) | (refine wpList_store_blk rfl 62 _ _ rfl g8 _ (u8s (List.replicate 32 0)) _ rfl rfl D8.out (size28 hXl (by simp)) (info28_l (by simp)) (u8s_one _) ?_))
        intro w8 c8 t8 _
        have hO := Lib.hid c8
        have PF := Lib.hid (PT.out.trans t8 fun x hx e => by omega : Pure w w8)
        clear c8 t8
        go_wp2
        exact bodyPost_ret (v := .tuple #[hv (List.replicate 32 0), .int .i64 400]) (results_cell2 Try.results93 _ _ g8 _ (u8s (List.replicate 32 0)).toArray _ _ rfl hO.out Try.underlying62 rfl (info28_a (by simp))) rfl ⟨rfl, PF.out⟩
end Go.Proofs.Ytcfbmbhkdicpfaa
