/- The law ProofSizes: how long paths are. -/
import Derived.Test.YtjbigghjbcjelaaPForms
namespace Go.Proofs.Ytjbigghjbcjelaa
open Go.RowKit

/-- How many levels a leaf goes down. -/
def depV (n i : Nat) : Nat := (pathV (List.replicate n []) i).length
theorem depV_one (n i : Nat) (h : ¬ 2 ≤ n) : depV n i = 0 := by rw [depV, pathV_one _ _ (by simpa using h)]; rfl
theorem depV_left {n i : Nat} (h : 2 ≤ n) (hi : i < belowV n) : depV n i = depV (belowV n) i + 1 := by
  have hk := belowV_lt h
  have := pathV_left (ls := List.replicate n ([] : List UInt8)) (i := i) (by simpa using h) (by simpa using hi)
  rw [List.length_replicate, List.take_replicate, Nat.min_eq_left (by omega)] at this
  rw [depV, this, List.length_append]; rfl
theorem depV_right {n i : Nat} (h : 2 ≤ n) (hi : ¬ i < belowV n) : depV n i = depV (n - belowV n) (i - belowV n) + 1 := by
  have hk := belowV_lt h
  have := pathV_right (ls := List.replicate n ([] : List UInt8)) (i := i) (by simpa using h) (by simpa using hi)
  rw [List.length_replicate, List.drop_replicate] at this
  rw [depV, this, List.length_append]; rfl
theorem consV_all (k : Nat) (h1 : 1 ≤ k) (h2 : k ≤ 256) : consV (List.replicate k []) k = [] ∧ consE (List.replicate k []) k = 0 := by
  constructor
  · rw [consV, if_pos (by simp; omega), subV_eq _ _ _ (by simp)]; rfl
  · rw [consE, if_pos (by simp; omega)]
theorem consV_part (k h j : Nat) (hj : h = 2 ^ j) (hlt : h < k) (hk : k ≤ 256) (hge : k ≤ 2 * h) : (consV (List.replicate k []) h).length = 1 ∧ consE (List.replicate k []) h = 0 := by
  have hp : 0 < h := by rw [hj]; exact Nat.two_pow_pos j
  have hb : belowV k = h := by rw [hj]; exact (belowV_unique (n := k) (j := j) (by omega) (by omega)).symm
  constructor
  · rw [consV, if_pos (by simp; omega)]
    have := subV_left (ls := List.replicate k ([] : List UInt8)) (m := h) true (by simp; omega) (by simp; omega) (by simp [hb])
    rw [List.length_replicate, hb, List.take_replicate, Nat.min_eq_left (by omega), subV_eq (List.replicate h []) h true (by simp)] at this
    rw [Int.toNat_natCast, this]
    rfl
  · rw [consE, if_pos (by simp; omega)]
theorem rem_at (x : Int) (k : Nat) (hk : 1 ≤ k) : ∃ a : Nat, a < k ∧ (IntKind.u64.wrap x).tmod (k : Int) = (a : Int) := by
  have h0 : 0 ≤ IntKind.u64.wrap x := by rw [IntKind.wrap_u64]; omega
  obtain ⟨y, hy⟩ : ∃ y : Nat, IntKind.u64.wrap x = (y : Int) := ⟨(IntKind.u64.wrap x).toNat, by omega⟩
  refine ⟨y % k, Nat.mod_lt _ (by omega), ?_⟩
  rw [hy, Int.tmod_eq_emod_of_nonneg (by omega)]
  omega

set_option maxRecDepth 100000 in
set_option maxHeartbeats 4000000 in
theorem ProofSizes_true (w : World) (size i : Int) :
    Calls Try.prog 10 #[.int .i64 size, .int .i64 i] w fun e w' => e = .returned (.bool true) ∧ Pure w w' := by
  obtain ⟨H, hH, hand⟩ := and63 size
  obtain ⟨k, hk⟩ : ∃ k, k = H + 1 := ⟨_, rfl⟩
  have i0 : IntKind.i64.wrap (1 + (H : Int)) = (k : Int) := by rw [IntWalk.i64_in _ (by omega)]; omega
  have hk1 : 1 ≤ k := by omega
  have hk2 : k ≤ 64 := by omega
  obtain ⟨a, hak, hrem⟩ := rem_at i k hk1
  have u1 : IntKind.u64.wrap (k : Int) = k := by rw [IntKind.wrap_u64]; omega
  have u2 : IntKind.i64.wrap (a : Int) = a := IntWalk.i64_in _ (by omega)
  have nz : ¬ (k : Int) = 0 := by omega
  have nz2 : ((k : Int) == 0) = false := by simp; omega
  clear hk
  have hin := fun W V h => Inclusion_any W V (List.replicate k []) a h (fits_made k) (by simp; omega) (by omega)
  rw [show inclE (List.replicate k []) (a : Int) = 0 by rw [inclE, if_pos (by simp; omega)], show inclV (List.replicate k []) (a : Int) = pathV (List.replicate k []) a by rw [inclV, if_pos (by simp; omega)]; rfl] at hin
  have hco := fun W V h => Consistency_any W V (List.replicate k []) k h (fits_made k) (by simp; omega) (by omega)
  rw [(consV_all k hk1 (by omega)).1, (consV_all k hk1 (by omega)).2] at hco
  have hcm := fun W V (m : Nat) (hm : m ≤ 64) h => Consistency_any W V (List.replicate k []) m h (fits_made k) (by simp; omega) (by omega)
  obtain ⟨D, hD⟩ : ∃ D, D = depV k a := ⟨_, rfl⟩
  have hDl : (pathV (List.replicate k []) a).length = D := by rw [hD]; rfl
  simp only [hDl] at hin
  simp only [List.length_nil] at hco
  have HD := Lib.hid hD
  clear hD hDl
  have HIN := Lib.hid hin; have HCO := Lib.hid hco; have HCM := Lib.hid hcm
  clear hin hco hcm
  have mk1 := fun W : World => make_str W k (by omega)
  go_enter Try.func10, Try.ntmps10
  go_wp2_with fail
  refine (awake10 _).mono ?_
  rintro e w1 ⟨rfl, t1⟩
  have T1 := Lib.hid (texts_made w1 k); have PT := Lib.hid (t1.alloc (.cells (strs (List.replicate k [])).toArray 9))
  clear t1
  go_wp2_with fail
  generalize w1.alloc (.cells (strs (List.replicate k [])).toArray 9) = wa at *
  generalize w1.heap.size = g1 at *
  refine (HIN.out _ _ T1.out).mono ?_
  rintro e w2 ⟨r, rfl, hr, _, t2⟩
  obtain ⟨ra, rc, rfl, _⟩ := ownsRow_shape hr
  have PT := Lib.hid (PT.out.pure t2); have T1 := Lib.hid (T1.out.pure t2)
  clear hr t2 HIN hrem u1 u2 i0 mk1 hand
  go_wp2
  go_loopw [10, 11, 12, 13] (fun d f m c wr => ∃ dn fr mn : Nat, d = .int .i64 (dn : Int) ∧ f = .int .i64 (fr : Int) ∧ m = .int .i64 (mn : Int) ∧ fr < mn ∧ mn ≤ 64 ∧ dn ≤ 64 - mn ∧ Hid (dn + depV mn fr = D) ∧ wr = w2) (fun d f m c _ => (intOf m).toNat)
  case atStart => exact ⟨0, a, k, rfl, rfl, rfl, hak, hk2, by omega, Lib.hid (by rw [HD.out]; omega), rfl⟩
  case round =>
    obtain ⟨dn, fr, mn, rfl, rfl, rfl, hfm, hm64, hdn, HDN, rfl⟩ := hrel
    by_cases h2 : 1 < mn
    · have q1 : (1 : Int) < mn := by omega
      go_wp2
      go_loopw [13] (fun i wq => ∃ c j : Nat, c = 2 ^ j ∧ c < mn ∧ i = .int .i64 (c : Int) ∧ wq = wr) (fun i _ => mn - (intOf i).toNat)
      case atStart => exact ⟨1, 0, rfl, by omega, rfl, rfl⟩
      case round =>
        obtain ⟨c, j, hcj, hc, rfl, rfl⟩ := hrel
        have hp : 0 < c := by rw [hcj]; exact Nat.two_pow_pos _
        obtain ⟨m2, hm2⟩ : ∃ m2, m2 = 2 * c := ⟨_, rfl⟩
        have i1 : IntKind.i64.wrap (2 * (c : Int)) = (m2 : Int) := by rw [IntWalk.i64_in _ (by omega)]; omega
        have HJ := Lib.hid (And.intro hcj (And.intro hm2 hp))
        by_cases hlt : m2 < mn
        · have q2 : (m2 : Int) < mn := by omega
          clear hcj hm2 hp
          go_wp2
          exact ⟨⟨m2, j + 1, by rw [HJ.out.2.1, HJ.out.1, Nat.pow_succ, Nat.mul_comm], by omega, by first | rfl | trivial, by first | rfl | trivial⟩, by have := HJ.out; simp [intOf]; omega⟩
        · have q2 : ¬ ((m2 : Int) < mn) := by omega
          have hb : c = belowV mn := hcj.trans (belowV_unique (n := mn) (j := j) (by omega) (by omega))
          have HB := Lib.hid hb
          clear hcj hm2 hb
          by_cases hfc : fr < c
          · have q3 : (fr : Int) < c := by omega
            have i5 : IntKind.i64.wrap ((dn : Int) + 1) = ((dn + 1 : Nat) : Int) := by rw [IntWalk.i64_in _ (by omega)]; omega
            go_wp2
            exact ⟨⟨dn + 1, fr, c, by first | rfl | trivial, by first | rfl | trivial, by first | rfl | trivial, hfc, by omega, by omega, Lib.hid (by have h := depV_left (n := mn) (i := fr) (by omega) (by rw [← HB.out]; exact hfc); rw [← HB.out] at h; have := HDN.out; omega), by first | rfl | trivial⟩, by simp [intOf]; omega⟩
          · have q3 : ¬ ((fr : Int) < c) := by omega
            have i5 : IntKind.i64.wrap ((dn : Int) + 1) = ((dn + 1 : Nat) : Int) := by rw [IntWalk.i64_in _ (by omega)]; omega
            have i6 : IntKind.i64.wrap ((fr : Int) - c) = ((fr - c : Nat) : Int) := by rw [IntWalk.i64_in _ (by omega)]; omega
            have i7 : IntKind.i64.wrap ((mn : Int) - c) = ((mn - c : Nat) : Int) := by rw [IntWalk.i64_in _ (by omega)]; omega
            go_wp2
            exact ⟨⟨dn + 1, fr - c, mn - c, by first | rfl | trivial, by first | rfl | trivial, by first | rfl | trivial, by omega, by omega, by omega, Lib.hid (by have h := depV_right (n := mn) (i := fr) (by omega) (by rw [← HB.out]; exact hfc); rw [← HB.out] at h; have := HDN.out; omega), by first | rfl | trivial⟩, by simp [intOf]; omega⟩
    · have q1 : ¬ ((1 : Int) < mn) := by omega
      obtain rfl : dn = D := by have := HDN.out; rw [depV_one mn fr (by omega)] at this; omega
      clear HDN HD
      go_wp2_with fail
      refine (HCO.out _ _ T1.out).mono ?_
      rintro e w3 ⟨r3, rfl, hr3, _, t3⟩
      obtain ⟨qa, qc, rfl, _⟩ := ownsRow_shape hr3
      have PT := Lib.hid (PT.out.pure t3); have T1 := Lib.hid (T1.out.pure t3)
      clear hr3 t3
      go_wp2
      go_loopw [16] (fun i wr => ∃ c j : Nat, c = 2 ^ j ∧ c ≤ k ∧ i = .int .i64 (c : Int) ∧ wr = w3) (fun i _ => k - (intOf i).toNat)
      case atStart => exact ⟨1, 0, rfl, by omega, rfl, rfl⟩
      case round =>
        obtain ⟨c, j, hcj, hc, rfl, rfl⟩ := hrel
        have hp : 0 < c := by rw [hcj]; exact Nat.two_pow_pos _
        obtain ⟨m2, hm2⟩ : ∃ m2, m2 = 2 * c := ⟨_, rfl⟩
        have i1 : IntKind.i64.wrap (2 * (c : Int)) = (m2 : Int) := by rw [IntWalk.i64_in _ (by omega)]; omega
        have HJ := Lib.hid (And.intro hcj (And.intro hm2 hp))
        by_cases hlt : m2 ≤ k
        · have q2 : (m2 : Int) ≤ k := by omega
          clear hcj hm2 hp
          go_wp2
          exact ⟨⟨m2, j + 1, by rw [HJ.out.2.1, HJ.out.1, Nat.pow_succ, Nat.mul_comm], by omega, by first | rfl | trivial, by first | rfl | trivial⟩, by have := HJ.out; simp [intOf]; omega⟩
        · have q2 : ¬ ((m2 : Int) ≤ k) := by omega
          by_cases hck : c = k
          · subst hck
            clear hcj hm2 hp HJ
            go_wp2_with fail
            refine (HCO.out _ _ T1.out).mono ?_
            rintro e w4 ⟨r4, rfl, hr4, _, t4⟩
            obtain ⟨sa, sc, rfl, _⟩ := ownsRow_shape hr4
            have PT := Lib.hid (PT.out.pure t4)
            clear hr4 t4
            go_wp2_with fail
            refine (Num9_any _ 0).mono ?_
            rintro e wn ⟨rfl, rfl⟩
            go_wp2_with fail
            refine (Num9_any _ 0).mono ?_
            rintro e wn ⟨rfl, rfl⟩
            go_wp2_with fail
            refine (Num9_any _ 0).mono ?_
            rintro e wn ⟨rfl, rfl⟩
            go_wp2
            go_ret
            exact ⟨rfl, PT.out⟩
          · have hcp := consV_part k c j hcj (by omega) (by omega) (by omega)
            have hcal := fun W V h => HCM.out W V c (by omega) h
            simp only [hcp.1, hcp.2] at hcal
            have HCAL := Lib.hid hcal
            have q3 : ((c : Int) == k) = false := by simp; omega
            have q4 : (c == k) = false := by simp; omega
            have q5 : (c : Int) < k := by omega
            clear hcj hm2 hp HJ hcal hcp
            go_wp2_with fail
            refine (HCAL.out _ _ T1.out).mono ?_
            rintro e w4 ⟨r4, rfl, hr4, _, t4⟩
            obtain ⟨sa, sc, rfl, _⟩ := ownsRow_shape hr4
            have PT := Lib.hid (PT.out.pure t4)
            clear hr4 t4
            go_wp2_with fail
            refine (Num9_any _ 0).mono ?_
            rintro e wn ⟨rfl, rfl⟩
            go_wp2_with fail
            refine (Num9_any _ 0).mono ?_
            rintro e wn ⟨rfl, rfl⟩
            go_wp2_with fail
            refine (Num9_any _ 0).mono ?_
            rintro e wn ⟨rfl, rfl⟩
            go_wp2
            go_ret
            exact ⟨rfl, PT.out⟩
end Go.Proofs.Ytjbigghjbcjelaa
