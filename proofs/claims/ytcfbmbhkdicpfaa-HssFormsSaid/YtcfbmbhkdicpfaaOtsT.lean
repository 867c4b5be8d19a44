/- Chapter 4, the reference: four bytes as a number; public keys. -/
import Derived.Test.YtcfbmbhkdicpfaaOtsI
import Derived.Test.YtcfbmbhkdicpfaaOtsL
import Derived.Test.YtcfbmbhkdicpfaaOwnA
namespace Go.Proofs.Ytcfbmbhkdicpfaa
open Go.RowKit

/-- Four bytes at a place as a number; -1: there are none. -/
def rnumV (s : List UInt8) (at_ : Nat) : Int := if at_ + 4 ≤ s.length then k4V (s.drop at_) else -1

set_option maxRecDepth 100000 in
set_option maxHeartbeats 2000000 in
theorem rnum_any (w : World) (s : List UInt8) (p : Nat) (hs : s.length ≤ 140737488351232) (hp : p ≤ 1000000) : Calls Try.prog 44 #[.string (bstr s), .int .i64 (p : Int)] w fun e w' => e = .returned (.int .i64 (rnumV s p)) ∧ Pure w w' := by
  have zs := bstr_size s
  have y0 : IntKind.i64.wrap ((s.length : Int) - 4) = (s.length : Int) - 4 := IntWalk.i64_in _ (by omega)
  have q0 : decide ((p : Int) < 0) = false := decide_eq_false (by omega)
  by_cases h4 : p + 4 ≤ s.length
  · rw [rnumV, if_pos h4]
    have q1 : decide ((s.length : Int) - 4 < (p : Int)) = false := decide_eq_false (by omega)
    have ix0 := fun W => index_bstr W s (p : Int) p rfl (by omega)
    have ix1 := fun W => index_bstr W s ((p + 1 : Nat) : Int) (p + 1) rfl (by omega)
    have ix2 := fun W => index_bstr W s ((p + 2 : Nat) : Int) (p + 2) rfl (by omega)
    have ix3 := fun W => index_bstr W s ((p + 3 : Nat) : Int) (p + 3) rfl (by omega)
    have p1 : IntKind.i64.wrap ((p : Int) + 1) = ((p + 1 : Nat) : Int) := by rw [IntWalk.i64_in _ (by omega)]; omega
    have p2 : IntKind.i64.wrap ((p : Int) + 2) = ((p + 2 : Nat) : Int) := by rw [IntWalk.i64_in _ (by omega)]; omega
    have p3 : IntKind.i64.wrap ((p : Int) + 3) = ((p + 3 : Nat) : Int) := by rw [IntWalk.i64_in _ (by omega)]; omega
    obtain ⟨pa, hpa⟩ : ∃ pa, pa = p + 1 := ⟨_, rfl⟩
    obtain ⟨pb, hpb⟩ : ∃ pb, pb = p + 2 := ⟨_, rfl⟩
    obtain ⟨pc, hpc⟩ : ∃ pc, pc = p + 3 := ⟨_, rfl⟩
    rw [← hpa] at ix1 p1
    rw [← hpb] at ix2 p2
    rw [← hpc] at ix3 p3
    have b0 := (s.getD p 0).toNat_lt
    have b1 := (s.getD pa 0).toNat_lt
    have b2 := (s.getD pb 0).toNat_lt
    have b3 := (s.getD pc 0).toNat_lt
    have hk : k4V (s.drop p) = bits .or .i64 (bits .or .i64 (bits .or .i64 (((s.getD p 0).toNat : Int) * 16777216) (((s.getD pa 0).toNat : Int) * 65536)) (((s.getD pb 0).toNat : Int) * 256)) ((s.getD pc 0).toNat : Int) := by
      subst hpa hpb hpc
      simp only [k4V, List.getD_eq_getElem?_getD, List.getElem?_drop, Nat.add_zero]
    generalize (s.getD p 0).toNat = c0 at ix0 b0 hk
    generalize (s.getD pa 0).toNat = c1 at ix1 b1 hk
    generalize (s.getD pb 0).toNat = c2 at ix2 b2 hk
    generalize (s.getD pc 0).toNat = c3 at ix3 b3 hk
    generalize k4V (s.drop p) = X3 at hk ⊢
    obtain ⟨X1, hX1⟩ : ∃ X1, X1 = bits .or .i64 ((c0 : Int) * 16777216) ((c1 : Int) * 65536) := ⟨_, rfl⟩
    rw [← hX1] at hk
    obtain ⟨X2, hX2⟩ : ∃ X2, X2 = bits .or .i64 X1 ((c2 : Int) * 256) := ⟨_, rfl⟩
    rw [← hX2] at hk
    have e1 : bits .or .i64 ((c0 : Int) * 16777216) ((c1 : Int) * 65536) = X1 := hX1.symm
    have e2 : bits .or .i64 X1 ((c2 : Int) * 256) = X2 := hX2.symm
    have e3 : bits .or .i64 X2 (c3 : Int) = X3 := hk.symm
    have v0 : IntKind.i64.wrap ((c0 : Int) * 16777216) = (c0 : Int) * 16777216 := IntWalk.i64_in _ (by omega)
    have v1 : IntKind.i64.wrap ((c1 : Int) * 65536) = (c1 : Int) * 65536 := IntWalk.i64_in _ (by omega)
    have v2 : IntKind.i64.wrap ((c2 : Int) * 256) = (c2 : Int) * 256 := IntWalk.i64_in _ (by omega)
    have w0 : IntKind.i64.wrap (c0 : Int) = c0 := IntWalk.i64_in _ (by omega)
    have w1 : IntKind.i64.wrap (c1 : Int) = c1 := IntWalk.i64_in _ (by omega)
    have w2 : IntKind.i64.wrap (c2 : Int) = c2 := IntWalk.i64_in _ (by omega)
    have w3 : IntKind.i64.wrap (c3 : Int) = c3 := IntWalk.i64_in _ (by omega)
    obtain ⟨n, hn⟩ : ∃ n, n = s.length := ⟨_, rfl⟩
    rw [← hn] at zs q1 y0
    clear hX1 hX2 hk hn h4 hs hpa hpb hpc
    go_enter Try.func44, Try.ntmps44
    go_wp2_with fail
    refine wp_region_held_drew (S := fun _ => True) (by kernel_rfl) trivial (fun _ => ?_)
    have PT := Lib.hid ((Turn.refl (fun _ => False) w).drew)
    generalize w.drew = w2 at *
    refine wpAnyH_take (i := 0) (v := ?_) rfl (by kernel_rfl) (by kernel_rfl) (by kernel_rfl) (fun _ _ _ h => h) (Or.inl ⟨by rfl, fun w hSw => ?_⟩) trivial ?_
    rotate_left
    · first | (go_simp; done) | (go_simp; with_reducible rfl)
    simp only [AP]
    refine wpAnyH_take (i := 1) (v := ?_) rfl (by kernel_rfl) (by kernel_rfl) (by kernel_rfl) (fun _ _ _ h => h) (Or.inl ⟨by rfl, fun w hSw => ?_⟩) trivial ?_
    rotate_left
    · first | (go_simp; done) | (go_simp; with_reducible rfl)
    simp only [AP]
    refine wpAnyH_take (i := 2) (v := ?_) rfl (by kernel_rfl) (by kernel_rfl) (by kernel_rfl) (fun _ _ _ h => h) (Or.inl ⟨by rfl, fun w hSw => ?_⟩) trivial ?_
    rotate_left
    · first | (go_simp; done) | (go_simp; with_reducible rfl)
    simp only [AP]
    refine wpAnyH_take (i := 3) (v := ?_) rfl (by kernel_rfl) (by kernel_rfl) (by kernel_rfl) (fun _ _ _ h => h) (Or.inl ⟨by rfl, fun w hSw => ?_⟩) trivial ?_
    rotate_left
    · first | (go_simp; done) | (go_simp; with_reducible rfl)
    simp only [AP]
    refine wpAnyH_take (i := 4) (v := ?_) rfl (by kernel_rfl) (by kernel_rfl) (by kernel_rfl) (fun _ _ _ h => h) (Or.inl ⟨by rfl, fun w hSw => ?_⟩) trivial ?_
    rotate_left
    · first | (go_simp; done) | (go_simp; with_reducible rfl)
    simp only [AP]
    refine wpAnyH_take (i := 5) (v := ?_) rfl (by kernel_rfl) (by kernel_rfl) (by kernel_rfl) (fun _ _ _ h => h) (Or.inl ⟨by rfl, fun w hSw => ?_⟩) trivial ?_
    rotate_left
    · first | (go_simp; done) | (go_simp; with_reducible rfl)
    simp only [AP]
    refine wpAnyH_take (i := 6) (v := ?_) rfl (by kernel_rfl) (by kernel_rfl) (by kernel_rfl) (fun _ _ _ h => h) (Or.inl ⟨by rfl, fun w hSw => ?_⟩) trivial ?_
    rotate_left
    · first | (go_simp; done) | (go_simp; with_reducible rfl)
    simp only [AP]
    refine wpAnyH_take (i := 7) (v := ?_) rfl (by kernel_rfl) (by kernel_rfl) (by kernel_rfl) (fun _ _ _ h => h) (Or.inl ⟨by rfl, fun w hSw => ?_⟩) trivial ?_
    rotate_left
    · first | (go_simp; done) | (go_simp; with_reducible rfl)
    simp only [AP]
    refine wpAnyH_take (i := 8) (v := ?_) rfl (by kernel_rfl) (by kernel_rfl) (by kernel_rfl) (fun _ _ _ h => h) (Or.inl ⟨by rfl, fun w hSw => ?_⟩) trivial ?_
    rotate_left
    · first | (go_simp; done) | (go_simp; with_reducible rfl)
    simp only [AP]
    refine wpAnyH_take (i := 9) (v := ?_) rfl (by kernel_rfl) (by kernel_rfl) (by kernel_rfl) (fun _ _ _ h => h) (Or.inl ⟨by rfl, fun w hSw => ?_⟩) trivial ?_
    rotate_left
    · first | (go_simp; done) | (go_simp; with_reducible rfl)
    simp only [AP]
    refine wpAnyH_take (i := 10) (v := ?_) rfl (by kernel_rfl) (by kernel_rfl) (by kernel_rfl) (fun _ _ _ h => h) (Or.inl ⟨by rfl, fun w hSw => ?_⟩) trivial ?_
    rotate_left
    · first | (go_simp; done) | (go_simp; with_reducible rfl)
    simp only [AP]
    refine wpAnyH_take (i := 11) (v := ?_) rfl (by kernel_rfl) (by kernel_rfl) (by kernel_rfl) (fun _ _ _ h => h) (Or.inl ⟨by rfl, fun w hSw => ?_⟩) trivial ?_
    rotate_left
    · first | (go_simp; done) | (go_simp; with_reducible rfl)
    simp only [AP]
    refine wpAnyH_take (i := 12) (v := ?_) rfl (by kernel_rfl) (by kernel_rfl) (by kernel_rfl) (fun _ _ _ h => h) (Or.inl ⟨by rfl, fun w hSw => ?_⟩) trivial ?_
    rotate_left
    · first | (go_simp; done) | (go_simp; with_reducible rfl)
    simp only [AP]
    refine wpAnyH_take (i := 13) (v := ?_) rfl (by kernel_rfl) (by kernel_rfl) (by kernel_rfl) (fun _ _ _ h => h) (Or.inl ⟨by rfl, fun w hSw => ?_⟩) trivial ?_
    rotate_left
    · first | (go_simp; done) | (go_simp; with_reducible rfl)
    simp only [AP]
    refine wpAnyH_take (i := 14) (v := ?_) rfl (by kernel_rfl) (by kernel_rfl) (by kernel_rfl) (fun _ _ _ h => h) (Or.inl ⟨by rfl, fun w hSw => ?_⟩) trivial ?_
    rotate_left
    · first | (go_simp; done) | (go_simp; with_reducible rfl)
    simp only [AP]
    refine wpAnyH_take (i := 15) (v := ?_) rfl (by kernel_rfl) (by kernel_rfl) (by kernel_rfl) (fun _ _ _ h => h) (Or.inl ⟨by rfl, fun w hSw => ?_⟩) trivial ?_
    rotate_left
    · first | (go_simp; done) | (go_simp; with_reducible rfl)
    simp only [AP]
    refine wpAnyH_take (i := 16) (v := ?_) rfl (by kernel_rfl) (by kernel_rfl) (by kernel_rfl) (fun _ _ _ h => h) (Or.inl ⟨by rfl, fun w hSw => ?_⟩) trivial ?_
    rotate_left
    · first | (go_simp; done) | (go_simp; with_reducible rfl)
    simp only [AP]
    refine wpAnyH_take (i := 17) (v := ?_) rfl (by kernel_rfl) (by kernel_rfl) (by kernel_rfl) (fun _ _ _ h => h) (Or.inl ⟨by rfl, fun w hSw => ?_⟩) trivial ?_
    rotate_left
    · first | (go_simp; done) | (go_simp; with_reducible rfl)
    simp only [AP]
    refine wpAnyH_take (i := 18) (v := ?_) rfl (by kernel_rfl) (by kernel_rfl) (by kernel_rfl) (fun _ _ _ h => h) (Or.inl ⟨by rfl, fun w hSw => ?_⟩) trivial ?_
    rotate_left
    · first | (go_simp; done) | (go_simp; with_reducible rfl)
    simp only [AP]
    refine wpAnyH_take (i := 19) (v := ?_) rfl (by kernel_rfl) (by kernel_rfl) (by kernel_rfl) (fun _ _ _ h => h) (Or.inl ⟨by rfl, fun w hSw => ?_⟩) trivial ?_
    rotate_left
    · first | (go_simp; done) | (go_simp; with_reducible rfl)
    simp only [AP]
    refine wpAnyH_take (i := 20) (v := ?_) rfl (by kernel_rfl) (by kernel_rfl) (by kernel_rfl) (fun _ _ _ h => h) (Or.inl ⟨by rfl, fun w hSw => ?_⟩) trivial ?_
    rotate_left
    · first | (go_simp; done) | (go_simp; with_reducible rfl)
    simp only [AP]
    refine wpAnyH_take (i := 21) (v := ?_) rfl (by kernel_rfl) (by kernel_rfl) (by kernel_rfl) (fun _ _ _ h => h) (Or.inl ⟨by rfl, fun w hSw => ?_⟩) trivial ?_
    rotate_left
    · first | (go_simp; done) | (go_simp; with_reducible rfl)
    simp only [AP]
    refine wpAnyH_take (i := 22) (v := ?_) rfl (by kernel_rfl) (by kernel_rfl) (by kernel_rfl) (fun _ _ _ h => h) (Or.inl ⟨by rfl, fun w hSw => ?_⟩) trivial ?_
    rotate_left
    · first | (go_simp; done) | (go_simp; with_reducible rfl)
    simp only [AP]
    refine wpAnyH_take (i := 23) (v := ?_) rfl (by kernel_rfl) (by kernel_rfl) (by kernel_rfl) (fun _ _ _ h => h) (Or.inl ⟨by rfl, fun w hSw => ?_⟩) trivial ?_
    rotate_left
    · first | (go_simp; done) | (go_simp; with_reducible rfl)
    simp only [AP]
    refine wpAnyH_take (i := 24) (v := ?_) rfl (by kernel_rfl) (by kernel_rfl) (by kernel_rfl) (fun _ _ _ h => h) (Or.inl ⟨by rfl, fun w hSw => ?_⟩) trivial ?_
    rotate_left
    · first | (go_simp; done) | (go_simp; with_reducible rfl)
    simp only [AP]
    refine wpAnyH_take (i := 25) (v := ?_) rfl (by kernel_rfl) (by kernel_rfl) (by kernel_rfl) (fun _ _ _ h => h) (Or.inl ⟨by rfl, fun w hSw => ?_⟩) trivial ?_
    rotate_left
    · first | (go_simp; done) | (go_simp; with_reducible rfl)
    simp only [AP]
    refine wpAnyH_done (by kernel_rfl) ?_ _
    clear e1 e2 e3 ix0 ix1 ix2 ix3
    go_wp2
    go_ret
    exact ⟨rfl, PT.out⟩
  · rw [rnumV, if_neg h4]
    have q1 : decide ((s.length : Int) - 4 < (p : Int)) = true := decide_eq_true (by omega)
    obtain ⟨n, hn⟩ : ∃ n, n = s.length := ⟨_, rfl⟩
    rw [← hn] at zs q1 y0
    clear hn h4 hs
    go_enter Try.func44, Try.ntmps44
    go_wp2
    go_ret
    exact ⟨rfl, Turn.refl _ _⟩

set_option maxRecDepth 100000 in
set_option maxHeartbeats 4000000 in
theorem ROtsPublic_3 (w : World) (id seed : List UInt8) (q : Nat) (hid : id.length = 16) (hq : q ≤ 4294967295) (hsd : seed.length = 32) :
    Calls Try.prog 126 #[.int .i64 3, .string (bstr id), .int .i64 (q : Int), .string (bstr seed)] w fun e w' => e = .returned (.tuple #[hv (otsPubV 4 67 (placeV id q) seed), .int .i64 0]) ∧ Pure w w' := by
  obtain ⟨X, hXl, HZ⟩ := ex28
  have hpr : ∀ W, Calls Try.prog 91 #[.int .i64 3] W fun e w' => e = .returned (.tuple #[.int .i64 4, .int .i64 67, .int .i64 4]) ∧ w' = W := fun W => Params_any W 3
  have hmy := fun W => otsMay_any W id q
  rw [placeB_true hid hq] at hmy
  have hbe := fun W => Be_anyS q 4 W (by omega) (by omega)
  have hbl : (beB q 4).length = 4 := beB_length _ _
  have hphd : placeV id q = id ++ beB q 4 := rfl
  rw [hphd]
  generalize beB q 4 = bq at hbe hbl ⊢
  obtain ⟨head, hhead⟩ : ∃ head, head = id ++ bq := ⟨_, rfl⟩
  have headl : head.length = 16 + 4 := by rw [hhead, List.length_append]; first | rfl | omega | (simp; omega) | simp
  have ahead : bstr id ++ bstr bq = bstr head := by rw [hhead]; exact bstr_app id bq
  have zhead : (bstr head).size = 16 + 4 := by rw [bstr_size, headl]
  have nhead : ¬ (9223372036854775807 < 16 + 4) := by omega
  rw [← hhead]
  obtain ⟨H2, hH2⟩ : ∃ H2, H2 = head ++ [128, 128] := ⟨_, rfl⟩
  have H2l : H2.length = 20 + 2 := by rw [hH2, List.length_append]; first | rfl | omega | (simp; omega) | simp
  have aH2 : bstr head ++ (⟨#[128, 128]⟩ : ByteArray) = bstr H2 := by rw [hH2]; exact bstr_app head [128, 128]
  have zH2 : (bstr H2).size = 20 + 2 := by rw [bstr_size, H2l]
  have nH2 : ¬ (9223372036854775807 < 20 + 2) := by omega
  have z1 : (bstr id).size = 16 := by rw [bstr_size, hid]
  have z2 : (bstr bq).size = 4 := by rw [bstr_size, hbl]
  have z3 : (bstr seed).size = 32 := by rw [bstr_size, hsd]
  obtain ⟨pp, hpp⟩ : ∃ pp : Nat, pp = 67 := ⟨_, rfl⟩
  obtain ⟨ALL, hALL⟩ : ∃ ALL, ALL = chainsV head (fun _ => 0) (fun _ => 2 ^ 4 - 1) (fun i => startV head i seed) pp := ⟨_, rfl⟩
  have hAl : ALL.length = 32 * pp := by rw [hALL, chainsV_length _ _ _ _ _ (fun i _ => startV_length _ _ _)]
  rw [← hpp]
  have hV : otsPubV 4 pp head seed = shaV (H2 ++ ALL) := by rw [hALL, otsPubV, hH2]; rfl
  have hha := fun W => Sha_any W (H2 ++ ALL) (by rw [List.length_append, H2l]; omega)
  rw [← hV] at hha
  have hPl : (otsPubV 4 pp head seed).length = 32 := shaV_length _
  generalize otsPubV 4 pp head seed = PUB at hha hPl ⊢
  have zp : (bstr PUB).size = 32 := by rw [bstr_size, hPl]
  have hpv := fun W (k : Nat) (hk : k < pp) => private_any W head seed k (by omega) (by omega) (by omega)
  have hst := fun W (k : Nat) (hk : k < pp) => steps_any W head k 0 15 (startV head k seed) (by omega) (by omega) (by omega) (startV_length _ _ _)
  have HPR := Lib.hid hpr; have HMY := Lib.hid hmy; have HBE := Lib.hid hbe; have HHA := Lib.hid hha; have HPV := Lib.hid hpv; have HST := Lib.hid hst; have HALL := Lib.hid hALL; have HPP := Lib.hid hpp
  have H2L := Lib.hid H2l
  have hOB := fun W => ownsA_bytes W 5 H2 (by rw [H2l]; decide)
  rw [show H2.length = 22 from H2l] at hOB
  have HOB := Lib.hid hOB
  have hLL : (H2 ++ ALL).length = 22 + 32 * pp := by rw [List.length_append, H2l, hAl]
  have HLL := Lib.hid hLL
  clear hpr hmy hbe hha hpv hst hALL hV hphd hhead hH2 headl hOB H2l hLL hAl
  go_enter Try.func126, Try.ntmps126
  go_wp2_with (refine wpList_allocZ rfl 62 rfl X HZ.out ?_)
  intro g8 w1 e1 c1 t1 s1
  have l8 : w.heap.size ≤ g8 := by omega
  clear e1
  have D8 := Lib.hid c1; have PT := Lib.hid t1
  clear c1 t1 s1
  go_wp2_with fail
  refine (HPR.out _).mono ?_
  rintro e w2 ⟨rfl, rfl⟩
  go_wp2_with fail
  refine (HMY.out _).mono ?_
  rintro e w3 ⟨rfl, rfl⟩
  go_wp2_with fail
  refine (HBE.out _).mono ?_
  rintro e w4 ⟨rfl, t4⟩
  have PT := Lib.hid (PT.out.pure t4)
  have D8 := Lib.hid (t4.obj D8.out (fun e => e))
  clear t4
  have hcv := Lib.run_convert_string_bytes (P := Try.prog) w4 9 65 5 (bstr H2) Try.underlying9 Try.underlying65 Try.underlying5
  rw [zH2] at hcv
  have hO := HOB.out w4
  generalize grownCap w4 22 0 5 = cap at hcv hO
  have hB : Pure w4 (Lib.bytesWorld w4 5 (bstr H2)) := bytesWorld_turn (Turn.refl _ _) _ _
  have PT := Lib.hid (PT.out.pure hB); have D8b := Lib.hid (hB.obj D8.out (fun e => e))
  have HO := Lib.hid hO
  have s4 : g8 < w4.heap.size := (Array.getElem?_eq_some_iff.1 D8.out).1
  have hg : w.heap.size ≤ w4.heap.size ∧ w4.heap.size ≠ g8 := by omega
  clear hB hO D8
  generalize Lib.bytesWorld w4 5 (bstr H2) = w5 at *
  generalize w4.heap.size = gb at *
  have HG := Lib.hid hg
  clear hg s4
  go_wp2
  clear hcv
  go_loopw [14, 15] (fun v i wr => ∃ (k g c : Nat), k ≤ 67 ∧ v = .slice (some ⟨g, 0, none⟩) (22 + 32 * k) c ∧ i = .int .i64 (k : Int) ∧ Hid (ownsA wr 5 (.slice (some ⟨g, 0, none⟩) (22 + 32 * k) c) (22 + 32 * k) (H2 ++ chainsV head (fun _ => 0) (fun _ => 2 ^ 4 - 1) (fun i => startV head i seed) k)) ∧ Hid (w.heap.size ≤ g ∧ g ≠ g8) ∧ Hid (wr.heap[g8]? = some (.cells X.toArray 62 (0, 0))) ∧ Hid (Pure w wr)) (fun _ i _ => 67 - (intOf i).toNat)
  case atStart => exact ⟨0, gb, cap, by omega, rfl, rfl, Lib.hid (by rw [chainsV, List.append_nil]; exact HO.out), HG, D8b, PT⟩
  case round =>
    obtain ⟨k, g, c, hk, rfl, rfl, HO, HG, HD8, HP⟩ := hrel
    by_cases hlt : k < 67
    · have q1 : (k : Int) < 67 := by omega
      have i1 : IntKind.i64.wrap ((k : Int) + 1) = ((k + 1 : Nat) : Int) := by rw [IntWalk.i64_in _ (by omega)]; omega
      have hcp := fun W => HPV.out W k (by have := HPP.out; omega)
      have hcs := fun W => HST.out W k (by have := HPP.out; omega)
      have hnext : (H2 ++ chainsV head (fun _ => 0) (fun _ => 2 ^ 4 - 1) (fun i => startV head i seed) k) ++ stepsV head k 0 15 (startV head k seed) = H2 ++ chainsV head (fun _ => 0) (fun _ => 2 ^ 4 - 1) (fun i => startV head i seed) (k + 1) := by rw [List.append_assoc]; rfl
      have hyl : (stepsV head k 0 15 (startV head k seed)).length = 32 := stepsV_length _ _ _ _ _ (startV_length _ _ _)
      generalize stepsV head k 0 15 (startV head k seed) = y at hcs hnext hyl
      generalize startV head k seed = x at hcs hcp
      have hnn : 22 + 32 * k + y.length = 22 + 32 * (k + 1) := by omega
      have HNX := Lib.hid (And.intro hnext hnn); have HCP := Lib.hid hcp; have HCS := Lib.hid hcs; have HYL := Lib.hid hyl
      have x2 : IntKind.i64.wrap 16 = 16 := IntWalk.i64_in _ (by omega)
      have x3 : IntKind.i64.wrap 15 = 15 := IntWalk.i64_in _ (by omega)
      obtain ⟨n, hn⟩ : ∃ n, n = 22 + 32 * k := ⟨_, rfl⟩
      rw [← hn] at HO HNX ⊢
      have nb : n ≤ 10000 := by omega
      have HN := Lib.hid hn
      clear hnext hnn hcp hcs hyl hn
      go_wp2_with fail
      refine wp_region_held_drew (S := fun _ => True) (by kernel_rfl) trivial (fun _ => ?_)
      have HP := Lib.hid HP.out.drew
      have HD8 := Lib.hid (show wr.drew.heap[g8]? = _ from HD8.out); have HO := Lib.hid (show ownsA wr.drew _ _ _ _ from HO.out)
      generalize wr.drew = wr at *
      refine wpAnyH_take (i := 0) (v := ?_) rfl (by kernel_rfl) (by kernel_rfl) (by kernel_rfl) (fun _ _ _ h => h) (Or.inl ⟨by rfl, fun w hSw => ?_⟩) trivial ?_
      rotate_left
      · first | (go_simp; done) | (go_simp; with_reducible rfl)
      simp only [AP]
      refine wpAnyH_take (i := 1) (v := ?_) rfl (by kernel_rfl) (by kernel_rfl) (by kernel_rfl) (fun _ _ _ h => h) (Or.inl ⟨by rfl, fun w hSw => ?_⟩) trivial ?_
      rotate_left
      · first | (go_simp; done) | (go_simp; with_reducible rfl)
      simp only [AP]
      refine wpAnyH_take (i := 2) (v := ?_) rfl (by kernel_rfl) (by kernel_rfl) (by kernel_rfl) (fun _ _ _ h => h) (Or.inl ⟨by rfl, fun w hSw => ?_⟩) trivial ?_
      rotate_left
      · first | (go_simp; done) | (go_simp; with_reducible rfl)
      simp only [AP]
      refine wpAnyH_take (i := 3) (v := ?_) rfl (by kernel_rfl) (by kernel_rfl) (by kernel_rfl) (fun _ _ _ h => h) (Or.inl ⟨by rfl, fun w hSw => ?_⟩) trivial ?_
      rotate_left
      · first | (go_simp; done) | (go_simp; with_reducible rfl)
      simp only [AP]
      refine wpAnyH_take (i := 4) (v := ?_) rfl (by kernel_rfl) (by kernel_rfl) (by kernel_rfl) (fun _ _ _ h => h) (Or.inl ⟨by rfl, fun w hSw => ?_⟩) trivial ?_
      rotate_left
      · first | (go_simp; done) | (go_simp; with_reducible rfl)
      simp only [AP]
      refine wpAnyH_take (i := 5) (v := ?_) rfl (by kernel_rfl) (by kernel_rfl) (by kernel_rfl) (fun _ _ _ h => h) (Or.inl ⟨by rfl, fun w hSw => ?_⟩) trivial ?_
      rotate_left
      · first | (go_simp; done) | (go_simp; with_reducible rfl)
      simp only [AP]
      refine wpAnyH_take (i := 6) (v := ?_) rfl (by kernel_rfl) (by kernel_rfl) (by kernel_rfl) (fun _ _ _ h => h) (Or.inl ⟨by rfl, fun w hSw => ?_⟩) trivial ?_
      rotate_left
      · first | (go_simp; done) | (go_simp; with_reducible rfl)
      simp only [AP]
      refine wpAnyH_take (i := 7) (v := ?_) rfl (by kernel_rfl) (by kernel_rfl) (by kernel_rfl) (fun _ _ _ h => h) (Or.inl ⟨by rfl, fun w hSw => ?_⟩) trivial ?_
      rotate_left
      · first | (go_simp; done) | (go_simp; with_reducible rfl)
      simp only [AP]
      refine wpAnyH_take (i := 8) (v := ?_) rfl (by kernel_rfl) (by kernel_rfl) (by kernel_rfl) (fun _ _ _ h => h) (Or.inl ⟨by rfl, fun w hSw => ?_⟩) trivial ?_
      rotate_left
      · first | (go_simp; done) | (go_simp; with_reducible rfl)
      simp only [AP]
      refine wpAnyH_step (i := 9) (by kernel_rfl) rfl fun K hK => ?_
      go_simp
      refine (HCP.out _).mono ?_
      rintro e w6 ⟨rfl, t6⟩
      have HP := Lib.hid (HP.out.pure t6); have HD8 := Lib.hid (t6.obj HD8.out (fun e => e)); have HO := Lib.hid (t6.ownA HO.out (fun _ _ e => e))
      clear t6
      refine hK.out _ _ trivial ?_
      clear hK K
      try simp only [AP]
      refine wpAnyH_step (i := 10) (by kernel_rfl) rfl fun K hK => ?_
      go_simp
      refine (HCS.out _).mono ?_
      rintro e w7 ⟨rfl, t7⟩
      have HP := Lib.hid (HP.out.pure t7); have HD8 := Lib.hid (t7.obj HD8.out (fun e => e)); have HO := Lib.hid (t7.ownA HO.out (fun _ _ e => e))
      clear t7
      refine hK.out _ _ trivial ?_
      clear hK K
      try simp only [AP]
      refine wpAnyH_step (i := 11) (by kernel_rfl) rfl fun K hK => ?_
      rw [if_pos (by rfl)]
      refine wp_appendA _ _ rfl w.heap.size _ n _ rfl HO.out (by intro q hq; cases hq; exact HG.out.1) HP.out.size y rfl (by have := HYL.out; omega) ?_
      intro g' c' w8 o8 b8 t8 ne8 ob8
      rw [HNX.out.1, HNX.out.2] at o8
      have HP8 := Lib.hid (HP.out.trans t8 fun x hx e => by omega : Pure w w8)
      have HD88 := Lib.hid (ob8 g8 _ (fun e => HG.out.2 (Option.some.inj e)) HD8.out)
      have HG8 := Lib.hid (And.intro b8 (Ne.symm (ne8 g8 (fun e => HG.out.2 (Option.some.inj e)) (Array.getElem?_eq_some_iff.1 HD8.out).1)))
      rw [HNX.out.2]
      have HO8 := Lib.hid o8
      clear t8 o8 b8 ne8 ob8
      refine hK.out _ _ trivial ?_
      clear hK K
      try simp only [AP]
      refine wpAnyH_take (i := 12) (v := ?_) rfl (by kernel_rfl) (by kernel_rfl) (by kernel_rfl) (fun _ _ _ h => h) (Or.inl ⟨by rfl, fun w hSw => ?_⟩) trivial ?_
      rotate_left
      · first | (go_simp; done) | (go_simp; with_reducible rfl)
      simp only [AP]
      refine wpAnyH_done (by kernel_rfl) ?_ _
      go_wp2
      exact ⟨⟨k + 1, g', c', by omega, rfl, by first | rfl | trivial, HO8, HG8, HD88, HP8⟩, by simp [intOf]; omega⟩
    · have q1 : ¬ ((k : Int) < 67) := by omega
      obtain rfl : k = pp := by have := HPP.out; omega
      have HO := HO
      rw [← HALL.out] at HO
      obtain ⟨gx, cx, ex, hcell⟩ := ownsA_shape HO.out
      obtain ⟨rfl, rfl⟩ : gx = g ∧ cx = c := by simp only [Value.slice.injEq, Option.some.injEq, Addr.mk.injEq] at ex; exact ⟨ex.1.1.symm, ex.2.2.symm⟩
      have hcv := conv_cells (P := Try.prog) wr 65 5 9 Try.underlying65 Try.underlying5 Try.underlying9 gx 0 (22 + 32 * k) cx (H2 ++ ALL) HLL.out hcell
      obtain ⟨n, hn⟩ : ∃ n, n = 22 + 32 * k := ⟨_, rfl⟩
      rw [← hn] at hcv ⊢
      clear hcell ex HO hn
      generalize H2 ++ ALL = MS at hcv HHA
      go_wp2_with fail
      refine (HHA.out _).mono ?_
      rintro e w6 ⟨rfl, t6⟩
      have HP6 := Lib.hid (HP.out.pure t6); have HD86 := Lib.hid (t6.obj HD8.out (fun e => e))
      clear t6 HP HD8 hcv
      go_wp2_with (refine wpList_store_blk rfl 62 _ _ rfl g8 _ (u8s PUB) _ rfl rfl HD86.out (size28 hXl hPl) (info28_l hPl) (u8s_one _) ?_)
      intro w8 c8 t8 _
      have hO := Lib.hid c8
      have PF := Lib.hid (HP6.out.trans t8 fun x hx e => by omega : Pure w w8)
      clear c8 t8
      go_wp2
      exact bodyPost_ret (v := .tuple #[hv PUB, .int .i64 0]) (results_cell2 Try.results126 _ _ g8 _ (u8s PUB).toArray _ _ rfl hO.out Try.underlying62 rfl (info28_a hPl)) rfl ⟨rfl, PF.out⟩

set_option maxRecDepth 100000 in
set_option maxHeartbeats 4000000 in
theorem ROtsPublic_4 (w : World) (id seed : List UInt8) (q : Nat) (hid : id.length = 16) (hq : q ≤ 4294967295) (hsd : seed.length = 32) :
    Calls Try.prog 126 #[.int .i64 4, .string (bstr id), .int .i64 (q : Int), .string (bstr seed)] w fun e w' => e = .returned (.tuple #[hv (otsPubV 8 34 (placeV id q) seed), .int .i64 0]) ∧ Pure w w' := by
  obtain ⟨X, hXl, HZ⟩ := ex28
  have hpr : ∀ W, Calls Try.prog 91 #[.int .i64 4] W fun e w' => e = .returned (.tuple #[.int .i64 8, .int .i64 34, .int .i64 0]) ∧ w' = W := fun W => Params_any W 4
  have hmy := fun W => otsMay_any W id q
  rw [placeB_true hid hq] at hmy
  have hbe := fun W => Be_anyS q 4 W (by omega) (by omega)
  have hbl : (beB q 4).length = 4 := beB_length _ _
  have hphd : placeV id q = id ++ beB q 4 := rfl
  rw [hphd]
  generalize beB q 4 = bq at hbe hbl ⊢
  obtain ⟨head, hhead⟩ : ∃ head, head = id ++ bq := ⟨_, rfl⟩
  have headl : head.length = 16 + 4 := by rw [hhead, List.length_append]; first | rfl | omega | (simp; omega) | simp
  have ahead : bstr id ++ bstr bq = bstr head := by rw [hhead]; exact bstr_app id bq
  have zhead : (bstr head).size = 16 + 4 := by rw [bstr_size, headl]
  have nhead : ¬ (9223372036854775807 < 16 + 4) := by omega
  rw [← hhead]
  obtain ⟨H2, hH2⟩ : ∃ H2, H2 = head ++ [128, 128] := ⟨_, rfl⟩
  have H2l : H2.length = 20 + 2 := by rw [hH2, List.length_append]; first | rfl | omega | (simp; omega) | simp
  have aH2 : bstr head ++ (⟨#[128, 128]⟩ : ByteArray) = bstr H2 := by rw [hH2]; exact bstr_app head [128, 128]
  have zH2 : (bstr H2).size = 20 + 2 := by rw [bstr_size, H2l]
  have nH2 : ¬ (9223372036854775807 < 20 + 2) := by omega
  have z1 : (bstr id).size = 16 := by rw [bstr_size, hid]
  have z2 : (bstr bq).size = 4 := by rw [bstr_size, hbl]
  have z3 : (bstr seed).size = 32 := by rw [bstr_size, hsd]
  obtain ⟨pp, hpp⟩ : ∃ pp : Nat, pp = 34 := ⟨_, rfl⟩
  obtain ⟨ALL, hALL⟩ : ∃ ALL, ALL = chainsV head (fun _ => 0) (fun _ => 2 ^ 8 - 1) (fun i => startV head i seed) pp := ⟨_, rfl⟩
  have hAl : ALL.length = 32 * pp := by rw [hALL, chainsV_length _ _ _ _ _ (fun i _ => startV_length _ _ _)]
  rw [← hpp]
  have hV : otsPubV 8 pp head seed = shaV (H2 ++ ALL) := by rw [hALL, otsPubV, hH2]; rfl
  have hha := fun W => Sha_any W (H2 ++ ALL) (by rw [List.length_append, H2l]; omega)
  rw [← hV] at hha
  have hPl : (otsPubV 8 pp head seed).length = 32 := shaV_length _
  generalize otsPubV 8 pp head seed = PUB at hha hPl ⊢
  have zp : (bstr PUB).size = 32 := by rw [bstr_size, hPl]
  have hpv := fun W (k : Nat) (hk : k < pp) => private_any W head seed k (by omega) (by omega) (by omega)
  have hst := fun W (k : Nat) (hk : k < pp) => steps_any W head k 0 255 (startV head k seed) (by omega) (by omega) (by omega) (startV_length _ _ _)
  have HPR := Lib.hid hpr; have HMY := Lib.hid hmy; have HBE := Lib.hid hbe; have HHA := Lib.hid hha; have HPV := Lib.hid hpv; have HST := Lib.hid hst; have HALL := Lib.hid hALL; have HPP := Lib.hid hpp
  have H2L := Lib.hid H2l
  have hOB := fun W => ownsA_bytes W 5 H2 (by rw [H2l]; decide)
  rw [show H2.length = 22 from H2l] at hOB
  have HOB := Lib.hid hOB
  have hLL : (H2 ++ ALL).length = 22 + 32 * pp := by rw [List.length_append, H2l, hAl]
  have HLL := Lib.hid hLL
  clear hpr hmy hbe hha hpv hst hALL hV hphd hhead hH2 headl hOB H2l hLL hAl
  go_enter Try.func126, Try.ntmps126
  go_wp2_with (refine wpList_allocZ rfl 62 rfl X HZ.out ?_)
  intro g8 w1 e1 c1 t1 s1
  have l8 : w.heap.size ≤ g8 := by omega
  clear e1
  have D8 := Lib.hid c1; have PT := Lib.hid t1
  clear c1 t1 s1
  go_wp2_with fail
  refine (HPR.out _).mono ?_
  rintro e w2 ⟨rfl, rfl⟩
  go_wp2_with fail
  refine (HMY.out _).mono ?_
  rintro e w3 ⟨rfl, rfl⟩
  go_wp2_with fail
  refine (HBE.out _).mono ?_
  rintro e w4 ⟨rfl, t4⟩
  have PT := Lib.hid (PT.out.pure t4)
  have D8 := Lib.hid (t4.obj D8.out (fun e => e))
  clear t4
  have hcv := Lib.run_convert_string_bytes (P := Try.prog) w4 9 65 5 (bstr H2) Try.underlying9 Try.underlying65 Try.underlying5
  rw [zH2] at hcv
  have hO := HOB.out w4
  generalize grownCap w4 22 0 5 = cap at hcv hO
  have hB : Pure w4 (Lib.bytesWorld w4 5 (bstr H2)) := bytesWorld_turn (Turn.refl _ _) _ _
  have PT := Lib.hid (PT.out.pure hB); have D8b := Lib.hid (hB.obj D8.out (fun e => e))
  have HO := Lib.hid hO
  have s4 : g8 < w4.heap.size := (Array.getElem?_eq_some_iff.1 D8.out).1
  have hg : w.heap.size ≤ w4.heap.size ∧ w4.heap.size ≠ g8 := by omega
  clear hB hO D8
  generalize Lib.bytesWorld w4 5 (bstr H2) = w5 at *
  generalize w4.heap.size = gb at *
  have HG := Lib.hid hg
  clear hg s4
  go_wp2
  clear hcv
  go_loopw [14, 15] (fun v i wr => ∃ (k g c : Nat), k ≤ 34 ∧ v = .slice (some ⟨g, 0, none⟩) (22 + 32 * k) c ∧ i = .int .i64 (k : Int) ∧ Hid (ownsA wr 5 (.slice (some ⟨g, 0, none⟩) (22 + 32 * k) c) (22 + 32 * k) (H2 ++ chainsV head (fun _ => 0) (fun _ => 2 ^ 8 - 1) (fun i => startV head i seed) k)) ∧ Hid (w.heap.size ≤ g ∧ g ≠ g8) ∧ Hid (wr.heap[g8]? = some (.cells X.toArray 62 (0, 0))) ∧ Hid (Pure w wr)) (fun _ i _ => 34 - (intOf i).toNat)
  case atStart => exact ⟨0, gb, cap, by omega, rfl, rfl, Lib.hid (by rw [chainsV, List.append_nil]; exact HO.out), HG, D8b, PT⟩
  case round =>
    obtain ⟨k, g, c, hk, rfl, rfl, HO, HG, HD8, HP⟩ := hrel
    by_cases hlt : k < 34
    · have q1 : (k : Int) < 34 := by omega
      have i1 : IntKind.i64.wrap ((k : Int) + 1) = ((k + 1 : Nat) : Int) := by rw [IntWalk.i64_in _ (by omega)]; omega
      have hcp := fun W => HPV.out W k (by have := HPP.out; omega)
      have hcs := fun W => HST.out W k (by have := HPP.out; omega)
      have hnext : (H2 ++ chainsV head (fun _ => 0) (fun _ => 2 ^ 8 - 1) (fun i => startV head i seed) k) ++ stepsV head k 0 255 (startV head k seed) = H2 ++ chainsV head (fun _ => 0) (fun _ => 2 ^ 8 - 1) (fun i => startV head i seed) (k + 1) := by rw [List.append_assoc]; rfl
      have hyl : (stepsV head k 0 255 (startV head k seed)).length = 32 := stepsV_length _ _ _ _ _ (startV_length _ _ _)
      generalize stepsV head k 0 255 (startV head k seed) = y at hcs hnext hyl
      generalize startV head k seed = x at hcs hcp
      have hnn : 22 + 32 * k + y.length = 22 + 32 * (k + 1) := by omega
      have HNX := Lib.hid (And.intro hnext hnn); have HCP := Lib.hid hcp; have HCS := Lib.hid hcs; have HYL := Lib.hid hyl
      have x2 : IntKind.i64.wrap 256 = 256 := IntWalk.i64_in _ (by omega)
      have x3 : IntKind.i64.wrap 255 = 255 := IntWalk.i64_in _ (by omega)
      obtain ⟨n, hn⟩ : ∃ n, n = 22 + 32 * k := ⟨_, rfl⟩
      rw [← hn] at HO HNX ⊢
      have nb : n ≤ 10000 := by omega
      have HN := Lib.hid hn
      clear hnext hnn hcp hcs hyl hn
      go_wp2_with fail
      refine wp_region_held_drew (S := fun _ => True) (by kernel_rfl) trivial (fun _ => ?_)
      have HP := Lib.hid HP.out.drew
      have HD8 := Lib.hid (show wr.drew.heap[g8]? = _ from HD8.out); have HO := Lib.hid (show ownsA wr.drew _ _ _ _ from HO.out)
      generalize wr.drew = wr at *
      refine wpAnyH_take (i := 0) (v := ?_) rfl (by kernel_rfl) (by kernel_rfl) (by kernel_rfl) (fun _ _ _ h => h) (Or.inl ⟨by rfl, fun w hSw => ?_⟩) trivial ?_
      rotate_left
      · first | (go_simp; done) | (go_simp; with_reducible rfl)
      simp only [AP]
      refine wpAnyH_take (i := 1) (v := ?_) rfl (by kernel_rfl) (by kernel_rfl) (by kernel_rfl) (fun _ _ _ h => h) (Or.inl ⟨by rfl, fun w hSw => ?_⟩) trivial ?_
      rotate_left
      · first | (go_simp; done) | (go_simp; with_reducible rfl)
      simp only [AP]
      refine wpAnyH_take (i := 2) (v := ?_) rfl (by kernel_rfl) (by kernel_rfl) (by kernel_rfl) (fun _ _ _ h => h) (Or.inl ⟨by rfl, fun w hSw => ?_⟩) trivial ?_
      rotate_left
      · first | (go_simp; done) | (go_simp; with_reducible rfl)
      simp only [AP]
      refine wpAnyH_take (i := 3) (v := ?_) rfl (by kernel_rfl) (by kernel_rfl) (by kernel_rfl) (fun _ _ _ h => h) (Or.inl ⟨by rfl, fun w hSw => ?_⟩) trivial ?_
      rotate_left
      · first | (go_simp; done) | (go_simp; with_reducible rfl)
      simp only [AP]
      refine wpAnyH_take (i := 4) (v := ?_) rfl (by kernel_rfl) (by kernel_rfl) (by kernel_rfl) (fun _ _ _ h => h) (Or.inl ⟨by rfl, fun w hSw => ?_⟩) trivial ?_
      rotate_left
      · first | (go_simp; done) | (go_simp; with_reducible rfl)
      simp only [AP]
      refine wpAnyH_take (i := 5) (v := ?_) rfl (by kernel_rfl) (by kernel_rfl) (by kernel_rfl) (fun _ _ _ h => h) (Or.inl ⟨by rfl, fun w hSw => ?_⟩) trivial ?_
      rotate_left
      · first | (go_simp; done) | (go_simp; with_reducible rfl)
      simp only [AP]
      refine wpAnyH_take (i := 6) (v := ?_) rfl (by kernel_rfl) (by kernel_rfl) (by kernel_rfl) (fun _ _ _ h => h) (Or.inl ⟨by rfl, fun w hSw => ?_⟩) trivial ?_
      rotate_left
      · first | (go_simp; done) | (go_simp; with_reducible rfl)
      simp only [AP]
      refine wpAnyH_take (i := 7) (v := ?_) rfl (by kernel_rfl) (by kernel_rfl) (by kernel_rfl) (fun _ _ _ h => h) (Or.inl ⟨by rfl, fun w hSw => ?_⟩) trivial ?_
      rotate_left
      · first | (go_simp; done) | (go_simp; with_reducible rfl)
      simp only [AP]
      refine wpAnyH_take (i := 8) (v := ?_) rfl (by kernel_rfl) (by kernel_rfl) (by kernel_rfl) (fun _ _ _ h => h) (Or.inl ⟨by rfl, fun w hSw => ?_⟩) trivial ?_
      rotate_left
      · first | (go_simp; done) | (go_simp; with_reducible rfl)
      simp only [AP]
      refine wpAnyH_step (i := 9) (by kernel_rfl) rfl fun K hK => ?_
      go_simp
      refine (HCP.out _).mono ?_
      rintro e w6 ⟨rfl, t6⟩
      have HP := Lib.hid (HP.out.pure t6); have HD8 := Lib.hid (t6.obj HD8.out (fun e => e)); have HO := Lib.hid (t6.ownA HO.out (fun _ _ e => e))
      clear t6
      refine hK.out _ _ trivial ?_
      clear hK K
      try simp only [AP]
      refine wpAnyH_step (i := 10) (by kernel_rfl) rfl fun K hK => ?_
      go_simp
      refine (HCS.out _).mono ?_
      rintro e w7 ⟨rfl, t7⟩
      have HP := Lib.hid (HP.out.pure t7); have HD8 := Lib.hid (t7.obj HD8.out (fun e => e)); have HO := Lib.hid (t7.ownA HO.out (fun _ _ e => e))
      clear t7
      refine hK.out _ _ trivial ?_
      clear hK K
      try simp only [AP]
      refine wpAnyH_step (i := 11) (by kernel_rfl) rfl fun K hK => ?_
      rw [if_pos (by rfl)]
      refine wp_appendA _ _ rfl w.heap.size _ n _ rfl HO.out (by intro q hq; cases hq; exact HG.out.1) HP.out.size y rfl (by have := HYL.out; omega) ?_
      intro g' c' w8 o8 b8 t8 ne8 ob8
      rw [HNX.out.1, HNX.out.2] at o8
      have HP8 := Lib.hid (HP.out.trans t8 fun x hx e => by omega : Pure w w8)
      have HD88 := Lib.hid (ob8 g8 _ (fun e => HG.out.2 (Option.some.inj e)) HD8.out)
      have HG8 := Lib.hid (And.intro b8 (Ne.symm (ne8 g8 (fun e => HG.out.2 (Option.some.inj e)) (Array.getElem?_eq_some_iff.1 HD8.out).1)))
      rw [HNX.out.2]
      have HO8 := Lib.hid o8
      clear t8 o8 b8 ne8 ob8
      refine hK.out _ _ trivial ?_
      clear hK K
      try simp only [AP]
      refine wpAnyH_take (i := 12) (v := ?_) rfl (by kernel_rfl) (by kernel_rfl) (by kernel_rfl) (fun _ _ _ h => h) (Or.inl ⟨by rfl, fun w hSw => ?_⟩) trivial ?_
      rotate_left
      · first | (go_simp; done) | (go_simp; with_reducible rfl)
      simp only [AP]
      refine wpAnyH_done (by kernel_rfl) ?_ _
      go_wp2
      exact ⟨⟨k + 1, g', c', by omega, rfl, by first | rfl | trivial, HO8, HG8, HD88, HP8⟩, by simp [intOf]; omega⟩
    · have q1 : ¬ ((k : Int) < 34) := by omega
      obtain rfl : k = pp := by have := HPP.out; omega
      have HO := HO
      rw [← HALL.out] at HO
      obtain ⟨gx, cx, ex, hcell⟩ := ownsA_shape HO.out
      obtain ⟨rfl, rfl⟩ : gx = g ∧ cx = c := by simp only [Value.slice.injEq, Option.some.injEq, Addr.mk.injEq] at ex; exact ⟨ex.1.1.symm, ex.2.2.symm⟩
      have hcv := conv_cells (P := Try.prog) wr 65 5 9 Try.underlying65 Try.underlying5 Try.underlying9 gx 0 (22 + 32 * k) cx (H2 ++ ALL) HLL.out hcell
      obtain ⟨n, hn⟩ : ∃ n, n = 22 + 32 * k := ⟨_, rfl⟩
      rw [← hn] at hcv ⊢
      clear hcell ex HO hn
      generalize H2 ++ ALL = MS at hcv HHA
      go_wp2_with fail
      refine (HHA.out _).mono ?_
      rintro e w6 ⟨rfl, t6⟩
      have HP6 := Lib.hid (HP.out.pure t6); have HD86 := Lib.hid (t6.obj HD8.out (fun e => e))
      clear t6 HP HD8 hcv
      go_wp2_with (refine wpList_store_blk rfl 62 _ _ rfl g8 _ (u8s PUB) _ rfl rfl HD86.out (size28 hXl hPl) (info28_l hPl) (u8s_one _) ?_)
      intro w8 c8 t8 _
      have hO := Lib.hid c8
      have PF := Lib.hid (HP6.out.trans t8 fun x hx e => by omega : Pure w w8)
      clear c8 t8
      go_wp2
      exact bodyPost_ret (v := .tuple #[hv PUB, .int .i64 0]) (results_cell2 Try.results126 _ _ g8 _ (u8s PUB).toArray _ _ rfl hO.out Try.underlying62 rfl (info28_a hPl)) rfl ⟨rfl, PF.out⟩
end Go.Proofs.Ytcfbmbhkdicpfaa
