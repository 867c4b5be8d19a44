/- Chapter 4, the program: what makes no candidate. Chapter 4: public keys, signatures and candidates for every input, of the program and of the reference. -/
import Derived.Test.YtcfbmbhkdicpfaaOtsI
import Derived.Test.YtcfbmbhkdicpfaaOtsL
import Derived.Test.YtcfbmbhkdicpfaaOtsJ
import Derived.Test.YtcfbmbhkdicpfaaOtsM
import Derived.Test.YtcfbmbhkdicpfaaOtsU
import Derived.Test.YtcfbmbhkdicpfaaOtsV
import Derived.Test.YtcfbmbhkdicpfaaOtsW
namespace Go.Proofs.Ytcfbmbhkdicpfaa
open Go.RowKit

set_option maxRecDepth 100000 in
set_option maxHeartbeats 2000000 in
theorem Candidate_bad (w : World) (id msg sign : List UInt8) (q : Int) (hid : id.length ≤ 140737488351232) (hsg : sign.length ≤ 140737488351232) (hbad : ¬ ((kindSV sign).2 = true ∧ placeB id q = true ∧ msg.length ≤ 65536)) :
    Calls Try.prog 50 #[.string (bstr id), .int .i64 q, .string (bstr msg), .string (bstr sign)] w fun e w' => e = .returned (.tuple #[hv (List.replicate 32 0), .int .i64 400]) ∧ Pure w w' := by
  obtain ⟨X, hXl, HZ⟩ := ex28
  have hkd := fun W => Kind_any W sign hsg
  have hpo := fun W => placeOf_any id q W hid
  have zm := bstr_size msg
  generalize kindSV sign = KS at hkd hbad
  obtain ⟨kn, KB⟩ := KS
  dsimp only at hkd hbad
  generalize placeB id q = PB at hpo hbad
  generalize id ++ beI q 4 = HD at hpo
  obtain ⟨m, hm⟩ : ∃ m, m = msg.length := ⟨_, rfl⟩
  rw [← hm] at zm hbad
  clear hm
  have HKD := Lib.hid hkd; have HPO := Lib.hid hpo
  cases KB with
  | false =>
    clear hkd hpo hbad
    go_enter Try.func50, Try.ntmps50
    go_wp2_with (refine wpList_allocZ rfl 62 rfl X HZ.out ?_)
    intro g8 w1 e1 c1 t1 s1
    have l8 : w.heap.size ≤ g8 := by omega
    clear e1
    go_wp2_with fail
    refine (HKD.out _).mono ?_
    rintro e w2 ⟨rfl, t2⟩
    have D8 := Lib.hid (t2.obj c1 (fun e => e)); have PT := Lib.hid (t1.pure t2)
    clear c1 t1 s1 t2
    go_wp2_with fail
    refine (HPO.out _).mono ?_
    rintro e w5 ⟨rfl, t5⟩
    have D8 := Lib.hid (t5.obj D8.out (fun e => e)); have PT := Lib.hid (PT.out.pure t5)
    clear t5 HKD HPO
    go_wp2_with (first | (refine wpList_buildH0 rfl rfl ?_) | (refine wpList_store_blk rfl 62 _ _ rfl g8 _ (u8s (List.replicate 32 0)) _ rfl rfl D8.out (size28 hXl (by simp)) (info28_l (by simp)) (u8s_one _) ?_))
    intro w8 c8 t8 _
    have hO := Lib.hid c8
    have PF := Lib.hid (PT.out.trans t8 fun x hx e => by omega : Pure w w8)
    clear c8 t8
    go_wp2
    exact bodyPost_ret (v := .tuple #[hv (List.replicate 32 0), .int .i64 400]) (results_cell2 Try.results50 _ _ g8 _ (u8s (List.replicate 32 0)).toArray _ _ rfl hO.out Try.underlying62 rfl (info28_a (by simp))) rfl ⟨rfl, PF.out⟩
  | true =>
    cases PB with
    | false =>
      clear hkd hpo hbad
      go_enter Try.func50, Try.ntmps50
      go_wp2_with (refine wpList_allocZ rfl 62 rfl X HZ.out ?_)
      intro g8 w1 e1 c1 t1 s1
      have l8 : w.heap.size ≤ g8 := by omega
      clear e1
      go_wp2_with fail
      refine (HKD.out _).mono ?_
      rintro e w2 ⟨rfl, t2⟩
      have D8 := Lib.hid (t2.obj c1 (fun e => e)); have PT := Lib.hid (t1.pure t2)
      clear c1 t1 s1 t2
      go_wp2_with fail
      refine (HPO.out _).mono ?_
      rintro e w5 ⟨rfl, t5⟩
      have D8 := Lib.hid (t5.obj D8.out (fun e => e)); have PT := Lib.hid (PT.out.pure t5)
      clear t5 HKD HPO
      go_wp2_with (first | (refine wpList_buildH0 rfl rfl ?_) | (refine wpList_store_blk rfl 62 _ _ rfl g8 _ (u8s (List.replicate 32 0)) _ rfl rfl D8.out (size28 hXl (by simp)) (info28_l (by simp)) (u8s_one _) ?_))
      intro w8 c8 t8 _
      have hO := Lib.hid c8
      have PF := Lib.hid (PT.out.trans t8 fun x hx e => by omega : Pure w w8)
      clear c8 t8
      go_wp2
      exact bodyPost_ret (v := .tuple #[hv (List.replicate 32 0), .int .i64 400]) (results_cell2 Try.results50 _ _ g8 _ (u8s (List.replicate 32 0)).toArray _ _ rfl hO.out Try.underlying62 rfl (info28_a (by simp))) rfl ⟨rfl, PF.out⟩
    | true =>
      have hm2 : ¬ m ≤ 65536 := fun h => hbad ⟨rfl, rfl, h⟩
      have q3 : decide ((65536 : Int) < m) = true := decide_eq_true (by omega)
      have q4 : decide (65536 < m) = true := decide_eq_true (by omega)
      clear hkd hpo hbad hm2
      go_enter Try.func50, Try.ntmps50
      go_wp2_with (refine wpList_allocZ rfl 62 rfl X HZ.out ?_)
      intro g8 w1 e1 c1 t1 s1
      have l8 : w.heap.size ≤ g8 := by omega
      clear e1
      go_wp2_with fail
      refine (HKD.out _).mono ?_
      rintro e w2 ⟨rfl, t2⟩
      have D8 := Lib.hid (t2.obj c1 (fun e => e)); have PT := Lib.hid (t1.pure t2)
      clear c1 t1 s1 t2
      go_wp2_with fail
      refine (HPO.out _).mono ?_
      rintro e w5 ⟨rfl, t5⟩
      have D8 := Lib.hid (t5.obj D8.out (fun e => e)); have PT := Lib.hid (PT.out.pure t5)
      clear t5 HKD HPO
      go_wp2_with (first | (refine wpList_buildH0 rfl rfl ?_) | (refine wpList_store_blk rfl 62 _ _ rfl g8 _ (u8s (List.replicate 32 0)) _ rfl rfl D8.out (size28 hXl (by simp)) (info28_l (by simp)) (u8s_one _) ?_))
      intro w8 c8 t8 _
      have hO := Lib.hid c8
      have PF := Lib.hid (PT.out.trans t8 fun x hx e => by omega : Pure w w8)
      clear c8 t8
      go_wp2
      exact bodyPost_ret (v := .tuple #[hv (List.replicate 32 0), .int .i64 400]) (results_cell2 Try.results50 _ _ g8 _ (u8s (List.replicate 32 0)).toArray _ _ rfl hO.out Try.underlying62 rfl (info28_a (by simp))) rfl ⟨rfl, PF.out⟩

def pubV (k : Int) (id : List UInt8) (q : Int) (seed : List UInt8) : List UInt8 × Int :=
  if kindB k = true ∧ placeB id q = true ∧ seed.length = 32 then (otsPubV (parV k).1 (parV k).2.1 (placeV id q.toNat) seed, 0) else (List.replicate 32 0, 400)
def signV (k : Int) (id : List UInt8) (q : Int) (seed msg : List UInt8) : List UInt8 × Int :=
  if kindB k = true ∧ placeB id q = true ∧ seed.length = 32 ∧ msg.length ≤ 65536 then (otsSignV k.toNat (parV k).1 (parV k).2.1 (parV k).2.2 (placeV id q.toNat) seed msg, 0) else ([], 400)
def candV (id : List UInt8) (q : Int) (msg sign : List UInt8) : List UInt8 × Int :=
  if (kindSV sign).2 = true ∧ placeB id q = true ∧ msg.length ≤ 65536 then (otsCandV (parV (kindSV sign).1).1 (parV (kindSV sign).1).2.1 (parV (kindSV sign).1).2.2 (placeV id q.toNat) msg sign, 0) else (List.replicate 32 0, 400)
theorem pubV_length (k : Int) (id : List UInt8) (q : Int) (seed : List UInt8) : (pubV k id q seed).1.length = 32 := by
  unfold pubV; split
  · exact shaV_length _
  · simp
theorem candV_length (id : List UInt8) (q : Int) (msg sign : List UInt8) : (candV id q msg sign).1.length = 32 := by
  unfold candV; split
  · exact shaV_length _
  · simp
theorem placeB_parts {id : List UInt8} {q : Int} (h : placeB id q = true) : ∃ m : Nat, q = (m : Int) ∧ m ≤ 4294967295 ∧ id.length = 16 := by
  have := of_decide_eq_true h
  exact ⟨q.toNat, by omega, by omega, this.1⟩
theorem kindB_parts {k : Int} (h : kindB k = true) : k = 3 ∨ k = 4 := of_decide_eq_true h

theorem Public_all (w : World) (k : Int) (id : List UInt8) (q : Int) (seed : List UInt8) (hid : id.length ≤ 140737488351232) :
    Calls Try.prog 123 #[.int .i64 k, .string (bstr id), .int .i64 q, .string (bstr seed)] w fun e w' => e = .returned (.tuple #[hv (pubV k id q seed).1, .int .i64 (pubV k id q seed).2]) ∧ Pure w w' := by
  by_cases h : kindB k = true ∧ placeB id q = true ∧ seed.length = 32
  · rw [pubV, if_pos h]
    obtain ⟨m, rfl, hm, hl⟩ := placeB_parts h.2.1
    rcases kindB_parts h.1 with rfl | rfl
    · exact Public_3 w id seed m hl hm h.2.2
    · exact Public_4 w id seed m hl hm h.2.2
  · rw [pubV, if_neg h]
    exact Public_bad w k id seed q hid h
theorem RPublic_all (w : World) (k : Int) (id : List UInt8) (q : Int) (seed : List UInt8) :
    Calls Try.prog 126 #[.int .i64 k, .string (bstr id), .int .i64 q, .string (bstr seed)] w fun e w' => e = .returned (.tuple #[hv (pubV k id q seed).1, .int .i64 (pubV k id q seed).2]) ∧ Pure w w' := by
  by_cases h : kindB k = true ∧ placeB id q = true ∧ seed.length = 32
  · rw [pubV, if_pos h]
    obtain ⟨m, rfl, hm, hl⟩ := placeB_parts h.2.1
    rcases kindB_parts h.1 with rfl | rfl
    · exact ROtsPublic_3 w id seed m hl hm h.2.2
    · exact ROtsPublic_4 w id seed m hl hm h.2.2
  · rw [pubV, if_neg h]
    exact ROtsPublic_bad w k id seed q h
theorem Sign_all (w : World) (k : Int) (id : List UInt8) (q : Int) (seed msg : List UInt8) (hid : id.length ≤ 140737488351232) :
    Calls Try.prog 86 #[.int .i64 k, .string (bstr id), .int .i64 q, .string (bstr seed), .string (bstr msg)] w fun e w' => e = .returned (.tuple #[.string (bstr (signV k id q seed msg).1), .int .i64 (signV k id q seed msg).2]) ∧ Pure w w' := by
  by_cases h : kindB k = true ∧ placeB id q = true ∧ seed.length = 32 ∧ msg.length ≤ 65536
  · rw [signV, if_pos h]
    obtain ⟨m, rfl, hm, hl⟩ := placeB_parts h.2.1
    rcases kindB_parts h.1 with rfl | rfl
    · exact Sign_3 w id seed msg m hl hm h.2.2.1 h.2.2.2
    · exact Sign_4 w id seed msg m hl hm h.2.2.1 h.2.2.2
  · rw [signV, if_neg h]
    exact Sign_bad w k id seed msg q hid h
theorem RSign_all (w : World) (k : Int) (id : List UInt8) (q : Int) (seed msg : List UInt8) :
    Calls Try.prog 89 #[.int .i64 k, .string (bstr id), .int .i64 q, .string (bstr seed), .string (bstr msg)] w fun e w' => e = .returned (.tuple #[.string (bstr (signV k id q seed msg).1), .int .i64 (signV k id q seed msg).2]) ∧ Pure w w' := by
  by_cases h : kindB k = true ∧ placeB id q = true ∧ seed.length = 32 ∧ msg.length ≤ 65536
  · rw [signV, if_pos h]
    obtain ⟨m, rfl, hm, hl⟩ := placeB_parts h.2.1
    rcases kindB_parts h.1 with rfl | rfl
    · exact ROtsSign_3 w id seed msg m hl hm h.2.2.1 h.2.2.2
    · exact ROtsSign_4 w id seed msg m hl hm h.2.2.1 h.2.2.2
  · rw [signV, if_neg h]
    exact ROtsSign_bad w k id seed msg q h
theorem kindSV_parts {s : List UInt8} (h : (kindSV s).2 = true) : (kindSV s = (3, true) ∧ s.length = 2180) ∨ (kindSV s = (4, true) ∧ s.length = 1124) := by
  unfold kindSV at h ⊢
  by_cases h4 : s.length < 4
  · rw [if_pos h4] at h; simp at h
  · rw [if_neg h4] at h ⊢
    obtain ⟨h1, h2⟩ := (Bool.and_eq_true _ _).mp h
    have h2 := of_decide_eq_true h2
    rcases kindB_parts h1 with e | e
    · rw [e] at h2
      refine Or.inl ⟨?_, h2.symm⟩
      rw [e, ← h2]; rfl
    · rw [e] at h2
      refine Or.inr ⟨?_, h2.symm⟩
      rw [e, ← h2]; rfl
theorem Candidate_all (w : World) (id : List UInt8) (q : Int) (msg sign : List UInt8) (hid : id.length ≤ 140737488351232) (hsg : sign.length ≤ 140737488351232) :
    Calls Try.prog 50 #[.string (bstr id), .int .i64 q, .string (bstr msg), .string (bstr sign)] w fun e w' => e = .returned (.tuple #[hv (candV id q msg sign).1, .int .i64 (candV id q msg sign).2]) ∧ Pure w w' := by
  by_cases h : (kindSV sign).2 = true ∧ placeB id q = true ∧ msg.length ≤ 65536
  · rw [candV, if_pos h]
    obtain ⟨m, rfl, hm, hl⟩ := placeB_parts h.2.1
    rcases kindSV_parts h.1 with ⟨e, hk⟩ | ⟨e, hk⟩
    · rw [e]; exact Candidate_3 w id msg sign m hl hm h.2.2 hk e
    · rw [e]; exact Candidate_4 w id msg sign m hl hm h.2.2 hk e
  · rw [candV, if_neg h]
    exact Candidate_bad w id msg sign q hid hsg h
theorem RCandidate_all (w : World) (id : List UInt8) (q : Int) (msg sign : List UInt8) (hsg : sign.length ≤ 140737488351232) :
    Calls Try.prog 93 #[.string (bstr id), .int .i64 q, .string (bstr msg), .string (bstr sign)] w fun e w' => e = .returned (.tuple #[hv (candV id q msg sign).1, .int .i64 (candV id q msg sign).2]) ∧ Pure w w' := by
  by_cases h : (kindSV sign).2 = true ∧ placeB id q = true ∧ msg.length ≤ 65536
  · rw [candV, if_pos h]
    obtain ⟨m, rfl, hm, hl⟩ := placeB_parts h.2.1
    rcases kindSV_parts h.1 with ⟨e, hk⟩ | ⟨e, hk⟩
    · rw [e]; exact RCandidate_3 w id msg sign m hl hm h.2.2 hk e
    · rw [e]; exact RCandidate_4 w id msg sign m hl hm h.2.2 hk e
  · rw [candV, if_neg h]
    exact RCandidate_bad w id msg sign q hsg h
end Go.Proofs.Ytcfbmbhkdicpfaa
