/- Chapter 4: public keys, signatures and candidates for every input, of the program and of the reference. -/
import Derived.Test.YtmifchdmlbcclaaOtsJ
import Derived.Test.YtmifchdmlbcclaaOtsM
import Derived.Test.YtmifchdmlbcclaaOtsN
import Derived.Test.YtmifchdmlbcclaaOtsU
import Derived.Test.YtmifchdmlbcclaaOtsV
import Derived.Test.YtmifchdmlbcclaaOtsW
namespace Go.Proofs.Ytmifchdmlbcclaa
open Go.RowKit

def pubV (k : Int) (id : List UInt8) (q : Int) (seed : List UInt8) : List UInt8 × Int :=
  if kindB k = true ∧ placeB id q = true ∧ seed.length = 32 then (otsPubV (parV k).1 (parV k).2.1 (placeV id q.toNat) seed, 0) else (List.replicate 32 0, 400)
def signV (k : Int) (id : List UInt8) (q : Int) (seed msg : List UInt8) : List UInt8 × Int :=
  if kindB k = true ∧ placeB id q = true ∧ seed.length = 32 ∧ msg.length ≤ 65536 then (otsSignV k.toNat (parV k).1 (parV k).2.1 (parV k).2.2 (placeV id q.toNat) seed msg, 0) else ([], 400)
def candV (id : List UInt8) (q : Int) (msg sign : List UInt8) : List UInt8 × Int :=
  if (kindSV sign).2 = true ∧ placeB id q = true ∧ msg.length ≤ 65536 then (otsCandV (parV (kindSV sign).1).1 (parV (kindSV sign).1).2.1 (parV (kindSV sign).1).2.2 (placeV id q.toNat) msg sign, 0) else (List.replicate 32 0, 400)
theorem pubV_length (k : Int) (id : List UInt8) (q : Int) (seed : List UInt8) : (pubV k id q seed).1.length = 32 := by
  unfold pubV; split
  · exact shaV_length _
  · simp
theorem candV_length (id : List UInt8) (q : Int) (msg sign : List UInt8) : (candV id q msg sign).1.length = 32 := by
  unfold candV; split
  · exact shaV_length _
  · simp
theorem placeB_parts {id : List UInt8} {q : Int} (h : placeB id q = true) : ∃ m : Nat, q = (m : Int) ∧ m ≤ 4294967295 ∧ id.length = 16 := by
  have := of_decide_eq_true h
  exact ⟨q.toNat, by omega, by omega, this.1⟩
theorem kindB_parts {k : Int} (h : kindB k = true) : k = 3 ∨ k = 4 := of_decide_eq_true h

theorem Public_all (w : World) (k : Int) (id : List UInt8) (q : Int) (seed : List UInt8) (hid : id.length ≤ 140737488351232) :
    Calls Try.prog 13 #[.int .i64 k, .string (bstr id), .int .i64 q, .string (bstr seed)] w fun e w' => e = .returned (.tuple #[hv (pubV k id q seed).1, .int .i64 (pubV k id q seed).2]) ∧ Pure w w' := by
  by_cases h : kindB k = true ∧ placeB id q = true ∧ seed.length = 32
  · rw [pubV, if_pos h]
    obtain ⟨m, rfl, hm, hl⟩ := placeB_parts h.2.1
    rcases kindB_parts h.1 with rfl | rfl
    · exact Public_3 w id seed m hl hm h.2.2
    · exact Public_4 w id seed m hl hm h.2.2
  · rw [pubV, if_neg h]
    exact Public_bad w k id seed q hid h
theorem RPublic_all (w : World) (k : Int) (id : List UInt8) (q : Int) (seed : List UInt8) :
    Calls Try.prog 14 #[.int .i64 k, .string (bstr id), .int .i64 q, .string (bstr seed)] w fun e w' => e = .returned (.tuple #[hv (pubV k id q seed).1, .int .i64 (pubV k id q seed).2]) ∧ Pure w w' := by
  by_cases h : kindB k = true ∧ placeB id q = true ∧ seed.length = 32
  · rw [pubV, if_pos h]
    obtain ⟨m, rfl, hm, hl⟩ := placeB_parts h.2.1
    rcases kindB_parts h.1 with rfl | rfl
    · exact ROtsPublic_3 w id seed m hl hm h.2.2
    · exact ROtsPublic_4 w id seed m hl hm h.2.2
  · rw [pubV, if_neg h]
    exact ROtsPublic_bad w k id seed q h
theorem Sign_all (w : World) (k : Int) (id : List UInt8) (q : Int) (seed msg : List UInt8) (hid : id.length ≤ 140737488351232) :
    Calls Try.prog 15 #[.int .i64 k, .string (bstr id), .int .i64 q, .string (bstr seed), .string (bstr msg)] w fun e w' => e = .returned (.tuple #[.string (bstr (signV k id q seed msg).1), .int .i64 (signV k id q seed msg).2]) ∧ Pure w w' := by
  by_cases h : kindB k = true ∧ placeB id q = true ∧ seed.length = 32 ∧ msg.length ≤ 65536
  · rw [signV, if_pos h]
    obtain ⟨m, rfl, hm, hl⟩ := placeB_parts h.2.1
    rcases kindB_parts h.1 with rfl | rfl
    · exact Sign_3 w id seed msg m hl hm h.2.2.1 h.2.2.2
    · exact Sign_4 w id seed msg m hl hm h.2.2.1 h.2.2.2
  · rw [signV, if_neg h]
    exact Sign_bad w k id seed msg q hid h
theorem RSign_all (w : World) (k : Int) (id : List UInt8) (q : Int) (seed msg : List UInt8) :
    Calls Try.prog 16 #[.int .i64 k, .string (bstr id), .int .i64 q, .string (bstr seed), .string (bstr msg)] w fun e w' => e = .returned (.tuple #[.string (bstr (signV k id q seed msg).1), .int .i64 (signV k id q seed msg).2]) ∧ Pure w w' := by
  by_cases h : kindB k = true ∧ placeB id q = true ∧ seed.length = 32 ∧ msg.length ≤ 65536
  · rw [signV, if_pos h]
    obtain ⟨m, rfl, hm, hl⟩ := placeB_parts h.2.1
    rcases kindB_parts h.1 with rfl | rfl
    · exact ROtsSign_3 w id seed msg m hl hm h.2.2.1 h.2.2.2
    · exact ROtsSign_4 w id seed msg m hl hm h.2.2.1 h.2.2.2
  · rw [signV, if_neg h]
    exact ROtsSign_bad w k id seed msg q h
theorem kindSV_parts {s : List UInt8} (h : (kindSV s).2 = true) : (kindSV s = (3, true) ∧ s.length = 2180) ∨ (kindSV s = (4, true) ∧ s.length = 1124) := by
  unfold kindSV at h ⊢
  by_cases h4 : s.length < 4
  · rw [if_pos h4] at h; simp at h
  · rw [if_neg h4] at h ⊢
    obtain ⟨h1, h2⟩ := (Bool.and_eq_true _ _).mp h
    have h2 := of_decide_eq_true h2
    rcases kindB_parts h1 with e | e
    · rw [e] at h2
      refine Or.inl ⟨?_, h2.symm⟩
      rw [e, ← h2]; rfl
    · rw [e] at h2
      refine Or.inr ⟨?_, h2.symm⟩
      rw [e, ← h2]; rfl
theorem Candidate_all (w : World) (id : List UInt8) (q : Int) (msg sign : List UInt8) (hid : id.length ≤ 140737488351232) (hsg : sign.length ≤ 140737488351232) :
    Calls Try.prog 19 #[.string (bstr id), .int .i64 q, .string (bstr msg), .string (bstr sign)] w fun e w' => e = .returned (.tuple #[hv (candV id q msg sign).1, .int .i64 (candV id q msg sign).2]) ∧ Pure w w' := by
  by_cases h : (kindSV sign).2 = true ∧ placeB id q = true ∧ msg.length ≤ 65536
  · rw [candV, if_pos h]
    obtain ⟨m, rfl, hm, hl⟩ := placeB_parts h.2.1
    rcases kindSV_parts h.1 with ⟨e, hk⟩ | ⟨e, hk⟩
    · rw [e]; exact Candidate_3 w id msg sign m hl hm h.2.2 hk e
    · rw [e]; exact Candidate_4 w id msg sign m hl hm h.2.2 hk e
  · rw [candV, if_neg h]
    exact Candidate_bad w id msg sign q hid hsg h
theorem RCandidate_all (w : World) (id : List UInt8) (q : Int) (msg sign : List UInt8) (hsg : sign.length ≤ 140737488351232) :
    Calls Try.prog 20 #[.string (bstr id), .int .i64 q, .string (bstr msg), .string (bstr sign)] w fun e w' => e = .returned (.tuple #[hv (candV id q msg sign).1, .int .i64 (candV id q msg sign).2]) ∧ Pure w w' := by
  by_cases h : (kindSV sign).2 = true ∧ placeB id q = true ∧ msg.length ≤ 65536
  · rw [candV, if_pos h]
    obtain ⟨m, rfl, hm, hl⟩ := placeB_parts h.2.1
    rcases kindSV_parts h.1 with ⟨e, hk⟩ | ⟨e, hk⟩
    · rw [e]; exact RCandidate_3 w id msg sign m hl hm h.2.2 hk e
    · rw [e]; exact RCandidate_4 w id msg sign m hl hm h.2.2 hk e
  · rw [candV, if_neg h]
    exact RCandidate_bad w id msg sign q hsg h
end Go.Proofs.Ytmifchdmlbcclaa
