/- The law ProofBack: what is proved is taken; a path longer is not. -/
import Derived.Test.YtjbigghjbcjelaaPBack0
namespace Go.Proofs.Ytjbigghjbcjelaa
open Go.RowKit


set_option maxRecDepth 100000 in
set_option maxHeartbeats 4000000 in
theorem ProofBack_main (w : World) (ls : List (List UInt8)) (b o c n : Nat) (i m : Int) (hn : n = ls.length) (h1 : 1 ≤ n) (h60 : n ≤ 60) (hlc : n ≤ c) (hf : Fits ls) (hr : w.rangeAt b o (strs ls)) :
    Calls Try.prog 9 #[.slice (some ⟨b, o, none⟩) n c, .int .i64 i, .int .i64 m] w fun e w' => e = .returned (.bool true) ∧ Pure w w' := by
  obtain ⟨X, hXl, HZ⟩ := ex28
  obtain ⟨i28, z28, HI28, hz28, hsz, hby, hzs⟩ := parts28
  have hi28 := HI28.out
  have hu28 := Try.underlying28
  have q1 : ((n : Int) == 0) = false := by simp; omega
  have q2 : (n == 0) = false := by simp; omega
  have q3 : decide ((60 : Int) < n) = false := decide_eq_false (by omega)
  have q4 : decide (60 < n) = false := decide_eq_false (by omega)
  obtain ⟨kk, hkk, hrem⟩ := rem_at i n h1
  obtain ⟨q0, hq0, hrem2⟩ := rem_at m n h1
  obtain ⟨q, hq⟩ : ∃ q, q = q0 + 1 := ⟨_, rfl⟩
  have u1 : IntKind.u64.wrap (n : Int) = n := by rw [IntKind.wrap_u64]; omega
  have u2 : IntKind.i64.wrap (kk : Int) = kk := IntWalk.i64_in _ (by omega)
  have u3 : IntKind.i64.wrap (q0 : Int) = q0 := IntWalk.i64_in _ (by omega)
  have u4 : IntKind.i64.wrap (1 + (q0 : Int)) = q := by rw [IntWalk.i64_in _ (by omega)]; omega
  have nz : ¬ (n : Int) = 0 := by omega
  have nz3 : ¬ n = 0 := by omega
  have hq1 : 1 ≤ q := by omega
  have hqn : q ≤ n := by omega
  clear hq
  have hT : Texts w (.slice (some ⟨b, o, none⟩) n c) ls := ⟨_, c, by rw [hn], by omega, fun _ => ⟨b, o, rfl, hr⟩⟩
  have hTq : Texts w (.slice (some ⟨b, o, none⟩) q c) (ls.take q) := ⟨_, c, by rw [List.length_take, Nat.min_eq_left (by omega)], by rw [List.length_take]; omega, fun _ => ⟨b, o, rfl, strs_take hr q⟩⟩
  obtain ⟨x, hx⟩ : ∃ x, ls[kk]? = some x := ⟨_, List.getElem?_eq_getElem (by omega)⟩
  have hxl : x.length ≤ 140737488351232 := hf x (List.mem_of_getElem? hx)
  have hcell : w.cell? ⟨b, o + kk, none⟩ = some (.string (bstr x)) := hr kk _ (by rw [strs, List.getElem?_map, hx]; rfl)
  have hfq : Fits (ls.take q) := fun l hl => hf l (List.mem_of_mem_take hl)
  have hlen : ls.length ≤ 60 := by omega
  have hrt := fun W V hW => RRoot_texts W V ls hW hf (by omega)
  have hro := fun W V hW => RRoot_texts W V (ls.take q) hW hfq (by simp; omega)
  have hin := fun W V hW => Inclusion_any W V ls (kk : Int) hW hf (by omega) (by omega)
  rw [show inclE ls (kk : Int) = 0 by rw [inclE, if_pos (by omega)], show inclV ls (kk : Int) = pathV ls kk by rw [inclV, if_pos (by omega)]; rfl] at hin
  have hco := fun W V hW => Consistency_any W V ls (q : Int) hW hf (by omega) (by omega)
  rw [show consE ls (q : Int) = 0 by rw [consE, if_pos (by omega)], show consV ls (q : Int) = subV ls q true by rw [consV, if_pos (by omega)]; rfl] at hco
  have hR : (rootV ls).length = 32 := rootV_length _
  have hO : (rootV (ls.take q)).length = 32 := rootV_length _
  have hP := pathV_len ls.length ls kk rfl
  have hC := subV_len ls.length ls q true rfl
  have hPl := hP.1
  have hCl := hC.1
  have e0 := back_chk ls kk x hx (by omega)
  have e1 := back_long ls kk x (rootV ls) (rootV ls) hx (by omega)
  have e2 := back_cchk ls q hq1 (by omega)
  have e3 := back_clong ls q (rootV ls) (rootV ls) hq1 (by omega)
  rw [← hn] at e0 e1 e2 e3
  generalize pathV ls kk = P at *
  generalize subV ls q true = S at *
  generalize rootV (ls.take q) = O at *
  generalize rootV ls = R at *
  have hk0 := fun W V hW => CheckInclusion_ok W x kk n V P R hxl h1 (by omega) hkk hW (by omega) hR
  have hk1 := fun W V hW => CheckInclusion_ok W x kk n V (P ++ [R]) R hxl h1 (by omega) hkk hW (by rw [List.length_append]; simp; omega) hR
  have hc0 := fun W V hW => CheckConsistency_ok W q O n R V S h1 (by omega) hq1 hqn hW (by omega) hO hR
  have hc1 := fun W V hW => CheckConsistency_ok W q O n R V (S ++ [R]) h1 (by omega) hq1 hqn hW (by rw [List.length_append]; simp; omega) hO hR
  rw [e0] at hk0
  rw [e1] at hk1
  rw [e2] at hc0
  rw [e3] at hc1
  have hP32 : ∀ y ∈ P ++ [R], y.length = 32 := fun y hy => by
    rcases List.mem_append.1 hy with h | h
    · exact hP.2 y h
    · obtain rfl := List.mem_singleton.1 h; exact hR
  have hS32 : ∀ y ∈ S ++ [R], y.length = 32 := fun y hy => by
    rcases List.mem_append.1 hy with h | h
    · exact hC.2 y h
    · obtain rfl := List.mem_singleton.1 h; exact hR
  have HRT := Lib.hid hrt; have HRO := Lib.hid hro; have HIN := Lib.hid hin; have HCO := Lib.hid hco; have HK0 := Lib.hid hk0; have HK1 := Lib.hid hk1; have HC0 := Lib.hid hc0; have HC1 := Lib.hid hc1
  have HP32 := Lib.hid hP32; have HS32 := Lib.hid hS32; have HPq := Lib.hid hP.2; have HCq := Lib.hid hC.2
  have HT := Lib.hid hT; have HTQ := Lib.hid hTq; have HCELL := Lib.hid hcell
  have r1 : (0 : Int) ≤ kk := by omega
  have r2 : (kk : Int) < n := by omega
  have r3 : (0 : Int) ≤ q := by omega
  have r4 : (q : Int) ≤ n := by omega
  have r5 : (q : Int) ≤ c := by omega
  have r6 : ¬ c = 0 := by omega
  obtain ⟨pn, hpn⟩ : ∃ pn, pn = P.length := ⟨_, rfl⟩
  obtain ⟨sn, hsn⟩ : ∃ sn, sn = S.length := ⟨_, rfl⟩
  rw [← hpn] at hPl
  rw [← hsn] at hCl
  have hpl60 : pn ≤ 60 := by omega
  have hsl60 : sn ≤ 61 := by omega
  rw [← hpn] at HIN
  rw [← hsn] at HCO
  have HPN := Lib.hid (And.intro hpn hsn)
  clear hrt hro hin hco hk0 hk1 hc0 hc1 hP32 hS32 hP hC e0 e1 e2 e3 hT hTq hcell hr hf hfq hx hPl hCl hlen hpn hsn hn
  go_enter Try.func9, Try.ntmps9
  go_wp2_with fail
  refine (awake10 _).mono ?_
  rintro e w1 ⟨rfl, t1⟩
  have PT := Lib.hid t1
  clear t1
  go_wp2_with fail
  refine wp_region_held_drew (S := fun _ => True) (by kernel_rfl) trivial (fun _ => ?_)
  have PT := Lib.hid PT.out.drew
  generalize w1.drew = w2 at *
  refine wpAnyH_take (i := 0) (v := .int .i64 i) rfl (by kernel_rfl) (by kernel_rfl) (by kernel_rfl) (fun _ _ _ h => h) (Or.inl ⟨by rfl, fun w hSw => by go_simp⟩) trivial ?_
  simp only [List.getElem_toArray, List.getElem_cons_zero, Act.put, List.setIfInBounds_toArray, List.set_cons_zero, List.set_cons_succ]
  refine wpAnyH_take (i := 1) (v := .int .u64 (IntKind.u64.wrap i)) rfl (by kernel_rfl) (by kernel_rfl) (by kernel_rfl) (fun _ _ _ h => h) (Or.inl ⟨by rfl, fun w hSw => by go_simp⟩) trivial ?_
  simp only [List.getElem_toArray, List.getElem_cons_succ, List.getElem_cons_zero, Act.put, List.setIfInBounds_toArray, List.set_cons_zero, List.set_cons_succ]
  refine wpAnyH_take (i := 2) (v := .slice (some ⟨b, o, none⟩) n c) rfl (by kernel_rfl) (by kernel_rfl) (by kernel_rfl) (fun _ _ _ h => h) (Or.inl ⟨by rfl, fun w hSw => by go_simp⟩) trivial ?_
  simp only [List.getElem_toArray, List.getElem_cons_succ, List.getElem_cons_zero, Act.put, List.setIfInBounds_toArray, List.set_cons_zero, List.set_cons_succ]
  refine wpAnyH_take (i := 3) (v := .int .i64 (n : Int)) rfl (by kernel_rfl) (by kernel_rfl) (by kernel_rfl) (fun _ _ _ h => h) (Or.inl ⟨by rfl, fun w hSw => by go_simp⟩) trivial ?_
  simp only [List.getElem_toArray, List.getElem_cons_succ, List.getElem_cons_zero, Act.put, List.setIfInBounds_toArray, List.set_cons_zero, List.set_cons_succ]
  refine wpAnyH_take (i := 4) (v := .int .u64 (n : Int)) rfl (by kernel_rfl) (by kernel_rfl) (by kernel_rfl) (fun _ _ _ h => h) (Or.inl ⟨by rfl, fun w hSw => by go_simp⟩) trivial ?_
  simp only [List.getElem_toArray, List.getElem_cons_succ, List.getElem_cons_zero, Act.put, List.setIfInBounds_toArray, List.set_cons_zero, List.set_cons_succ]
  refine wpAnyH_take (i := 5) (v := .int .u64 (kk : Int)) rfl (by kernel_rfl) (by kernel_rfl) (by kernel_rfl) (fun _ _ _ h => h) (Or.inl ⟨by rfl, fun w hSw => by go_simp⟩) trivial ?_
  simp only [List.getElem_toArray, List.getElem_cons_succ, List.getElem_cons_zero, Act.put, List.setIfInBounds_toArray, List.set_cons_zero, List.set_cons_succ]
  refine wpAnyH_take (i := 6) (v := .int .i64 (kk : Int)) rfl (by kernel_rfl) (by kernel_rfl) (by kernel_rfl) (fun _ _ _ h => h) (Or.inl ⟨by rfl, fun w hSw => by go_simp⟩) trivial ?_
  simp only [List.getElem_toArray, List.getElem_cons_succ, List.getElem_cons_zero, Act.put, List.setIfInBounds_toArray, List.set_cons_zero, List.set_cons_succ]
  refine wpAnyH_take (i := 7) (v := .int .i64 m) rfl (by kernel_rfl) (by kernel_rfl) (by kernel_rfl) (fun _ _ _ h => h) (Or.inl ⟨by rfl, fun w hSw => by go_simp⟩) trivial ?_
  simp only [List.getElem_toArray, List.getElem_cons_succ, List.getElem_cons_zero, Act.put, List.setIfInBounds_toArray, List.set_cons_zero, List.set_cons_succ]
  refine wpAnyH_take (i := 8) (v := .int .u64 (IntKind.u64.wrap m)) rfl (by kernel_rfl) (by kernel_rfl) (by kernel_rfl) (fun _ _ _ h => h) (Or.inl ⟨by rfl, fun w hSw => by go_simp⟩) trivial ?_
  simp only [List.getElem_toArray, List.getElem_cons_succ, List.getElem_cons_zero, Act.put, List.setIfInBounds_toArray, List.set_cons_zero, List.set_cons_succ]
  refine wpAnyH_take (i := 9) (v := .slice (some ⟨b, o, none⟩) n c) rfl (by kernel_rfl) (by kernel_rfl) (by kernel_rfl) (fun _ _ _ h => h) (Or.inl ⟨by rfl, fun w hSw => by go_simp⟩) trivial ?_
  simp only [List.getElem_toArray, List.getElem_cons_succ, List.getElem_cons_zero, Act.put, List.setIfInBounds_toArray, List.set_cons_zero, List.set_cons_succ]
  refine wpAnyH_take (i := 10) (v := .int .i64 (n : Int)) rfl (by kernel_rfl) (by kernel_rfl) (by kernel_rfl) (fun _ _ _ h => h) (Or.inl ⟨by rfl, fun w hSw => by go_simp⟩) trivial ?_
  simp only [List.getElem_toArray, List.getElem_cons_succ, List.getElem_cons_zero, Act.put, List.setIfInBounds_toArray, List.set_cons_zero, List.set_cons_succ]
  refine wpAnyH_take (i := 11) (v := .int .u64 (n : Int)) rfl (by kernel_rfl) (by kernel_rfl) (by kernel_rfl) (fun _ _ _ h => h) (Or.inl ⟨by rfl, fun w hSw => by go_simp⟩) trivial ?_
  simp only [List.getElem_toArray, List.getElem_cons_succ, List.getElem_cons_zero, Act.put, List.setIfInBounds_toArray, List.set_cons_zero, List.set_cons_succ]
  refine wpAnyH_take (i := 12) (v := .int .u64 (q0 : Int)) rfl (by kernel_rfl) (by kernel_rfl) (by kernel_rfl) (fun _ _ _ h => h) (Or.inl ⟨by rfl, fun w hSw => by go_simp⟩) trivial ?_
  simp only [List.getElem_toArray, List.getElem_cons_succ, List.getElem_cons_zero, Act.put, List.setIfInBounds_toArray, List.set_cons_zero, List.set_cons_succ]
  refine wpAnyH_take (i := 13) (v := .int .i64 (q0 : Int)) rfl (by kernel_rfl) (by kernel_rfl) (by kernel_rfl) (fun _ _ _ h => h) (Or.inl ⟨by rfl, fun w hSw => by go_simp⟩) trivial ?_
  simp only [List.getElem_toArray, List.getElem_cons_succ, List.getElem_cons_zero, Act.put, List.setIfInBounds_toArray, List.set_cons_zero, List.set_cons_succ]
  refine wpAnyH_take (i := 14) (v := .int .i64 (q : Int)) rfl (by kernel_rfl) (by kernel_rfl) (by kernel_rfl) (fun _ _ _ h => h) (Or.inl ⟨by rfl, fun w hSw => by go_simp⟩) trivial ?_
  simp only [List.getElem_toArray, List.getElem_cons_succ, List.getElem_cons_zero, Act.put, List.setIfInBounds_toArray, List.set_cons_zero, List.set_cons_succ]
  refine wpAnyH_take (i := 15) (v := .int .i64 (kk : Int)) rfl (by kernel_rfl) (by kernel_rfl) (by kernel_rfl) (fun _ _ _ h => h) (Or.inl ⟨by rfl, fun w hSw => by go_simp⟩) trivial ?_
  simp only [List.getElem_toArray, List.getElem_cons_succ, List.getElem_cons_zero, Act.put, List.setIfInBounds_toArray, List.set_cons_zero, List.set_cons_succ]
  refine wpAnyH_take (i := 16) (v := .int .i64 (q : Int)) rfl (by kernel_rfl) (by kernel_rfl) (by kernel_rfl) (fun _ _ _ h => h) (Or.inl ⟨by rfl, fun w hSw => by go_simp⟩) trivial ?_
  simp only [List.getElem_toArray, List.getElem_cons_succ, List.getElem_cons_zero, Act.put, List.setIfInBounds_toArray, List.set_cons_zero, List.set_cons_succ]
  refine wpAnyH_done (by kernel_rfl) ?_ _
  clear hrem hrem2 u1 u2 u3 u4
  go_wp2_with fail
  refine (HRT.out _ _ (HT.out.pure PT.out)).mono ?_
  rintro e w3 ⟨rfl, t3⟩
  have PT := Lib.hid (PT.out.pure t3)
  clear t3
  go_wp2_with (refine wpList_allocZ rfl 28 rfl X HZ.out ?_)
  intro g9 w4 e4 c4 t4 s4
  have l9 : w.heap.size ≤ g9 := by have := PT.out.size; omega
  clear e4
  go_wp2_with (refine wpList_store_blk rfl 28 _ _ rfl g9 _ (u8s R) _ rfl rfl c4 (size28 hXl hR) (info28_l hR) (u8s_one _) ?_)
  intro w5 c5 t5 _
  have D9 := Lib.hid c5; have PT := Lib.hid ((PT.out.pure t4).trans t5 fun q hq e => by omega : Pure w w5)
  clear c4 t4 s4 c5 t5
  go_wp2_with fail
  refine (HIN.out _ _ (HT.out.pure PT.out)).mono ?_
  rintro e w6 ⟨r, rfl, hr6, _, t6⟩
  have PT := Lib.hid (PT.out.pure t6); have D9 := Lib.hid (t6.obj D9.out (fun e => e))
  have HP := Lib.hid (Hashs.own hr6 HPq.out)
  obtain ⟨ra, rc, rfl, _⟩ := ownsRow_shape hr6
  clear hr6 t6
  go_wp2_with fail
  refine wp_region_held_drew (S := fun w' => w'.cell? ⟨b, o + kk, none⟩ = some (.string (bstr x)) ∧ w'.rangeAt g9 0 (u8s R)) (by kernel_rfl) (show w6.drew.cell? ⟨b, o + kk, none⟩ = some (.string (bstr x)) ∧ w6.drew.rangeAt g9 0 (u8s R) from ⟨PT.out.cell HCELL.out (fun e => e), range_of_row D9.out⟩) (fun _ => ?_)
  have td : Pure w6 w6.drew := (Turn.refl _ _).drew
  have PT := Lib.hid (PT.out.pure td); have D9 := Lib.hid (td.obj D9.out (fun e => e)); have HP := Lib.hid (HP.out.pure td)
  clear td
  generalize w6.drew = w7 at *
  refine wpAnyH_take (i := 0) (v := .slice (some ⟨b, o, none⟩) n c) rfl (by kernel_rfl) (by kernel_rfl) (by kernel_rfl) (fun _ _ _ h => h) (Or.inl ⟨by rfl, fun w hSw => by go_simp⟩) (And.intro (PT.out.cell HCELL.out (fun e => e)) (range_of_row D9.out)) ?_
  simp only [List.getElem_toArray, List.getElem_cons_zero, Act.put, List.setIfInBounds_toArray, List.set_cons_zero, List.set_cons_succ]
  refine wpAnyH_take (i := 1) (v := .int .i64 (kk : Int)) rfl (by kernel_rfl) (by kernel_rfl) (by kernel_rfl) (fun _ _ _ h => h) (Or.inl ⟨by rfl, fun w hSw => by go_simp⟩) (And.intro (PT.out.cell HCELL.out (fun e => e)) (range_of_row D9.out)) ?_
  simp only [List.getElem_toArray, List.getElem_cons_succ, List.getElem_cons_zero, Act.put, List.setIfInBounds_toArray, List.set_cons_zero, List.set_cons_succ]
  refine wpAnyH_take (i := 2) (v := .pointer (some ⟨b, o + kk, none⟩)) rfl (by kernel_rfl) (by kernel_rfl) (by kernel_rfl) (fun _ _ _ h => h) (Or.inl ⟨by rfl, fun w hSw => by go_simp⟩) (And.intro (PT.out.cell HCELL.out (fun e => e)) (range_of_row D9.out)) ?_
  simp only [List.getElem_toArray, List.getElem_cons_succ, List.getElem_cons_zero, Act.put, List.setIfInBounds_toArray, List.set_cons_zero, List.set_cons_succ]
  refine wpAnyH_take (i := 3) (v := .string (bstr x)) rfl (by kernel_rfl) (by kernel_rfl) (by kernel_rfl) (fun _ _ _ h => h) (Or.inl ⟨by rfl, fun w hSw => by obtain ⟨h1, h2⟩ := hSw; go_simp⟩) (And.intro (PT.out.cell HCELL.out (fun e => e)) (range_of_row D9.out)) ?_
  simp only [List.getElem_toArray, List.getElem_cons_succ, List.getElem_cons_zero, Act.put, List.setIfInBounds_toArray, List.set_cons_zero, List.set_cons_succ]
  refine wpAnyH_take (i := 4) (v := .int .i64 (kk : Int)) rfl (by kernel_rfl) (by kernel_rfl) (by kernel_rfl) (fun _ _ _ h => h) (Or.inl ⟨by rfl, fun w hSw => by go_simp⟩) (And.intro (PT.out.cell HCELL.out (fun e => e)) (range_of_row D9.out)) ?_
  simp only [List.getElem_toArray, List.getElem_cons_succ, List.getElem_cons_zero, Act.put, List.setIfInBounds_toArray, List.set_cons_zero, List.set_cons_succ]
  refine wpAnyH_take (i := 5) (v := .slice (some ⟨b, o, none⟩) n c) rfl (by kernel_rfl) (by kernel_rfl) (by kernel_rfl) (fun _ _ _ h => h) (Or.inl ⟨by rfl, fun w hSw => by go_simp⟩) (And.intro (PT.out.cell HCELL.out (fun e => e)) (range_of_row D9.out)) ?_
  simp only [List.getElem_toArray, List.getElem_cons_succ, List.getElem_cons_zero, Act.put, List.setIfInBounds_toArray, List.set_cons_zero, List.set_cons_succ]
  refine wpAnyH_take (i := 6) (v := .int .i64 (n : Int)) rfl (by kernel_rfl) (by kernel_rfl) (by kernel_rfl) (fun _ _ _ h => h) (Or.inl ⟨by rfl, fun w hSw => by go_simp⟩) (And.intro (PT.out.cell HCELL.out (fun e => e)) (range_of_row D9.out)) ?_
  simp only [List.getElem_toArray, List.getElem_cons_succ, List.getElem_cons_zero, Act.put, List.setIfInBounds_toArray, List.set_cons_zero, List.set_cons_succ]
  refine wpAnyH_take (i := 7) (v := .slice ra pn rc) rfl (by kernel_rfl) (by kernel_rfl) (by kernel_rfl) (fun _ _ _ h => h) (Or.inl ⟨by rfl, fun w hSw => by go_simp⟩) (And.intro (PT.out.cell HCELL.out (fun e => e)) (range_of_row D9.out)) ?_
  simp only [List.getElem_toArray, List.getElem_cons_succ, List.getElem_cons_zero, Act.put, List.setIfInBounds_toArray, List.set_cons_zero, List.set_cons_succ]
  refine wpAnyH_take (i := 8) (v := hv R) rfl (by kernel_rfl) (by kernel_rfl) (by kernel_rfl) (fun _ _ _ h => h) (yieldsIf_load_mid (by rfl) 28 _ rfl g9 0 rfl (u8s R) _ (fun w h => h.2) hu28 rfl (info28_l hR)) (And.intro (PT.out.cell HCELL.out (fun e => e)) (range_of_row D9.out)) ?_
  simp only [List.getElem_toArray, List.getElem_cons_succ, List.getElem_cons_zero, Act.put, List.setIfInBounds_toArray, List.set_cons_zero, List.set_cons_succ]
  refine wpAnyH_step (i := 9) (by kernel_rfl) rfl fun K hK => ?_
  go_simp
  refine (HK0.out _ _ HP.out).mono ?_
  rintro e w9 ⟨rfl, t9⟩
  have PT9 : Hid (Pure w w9) := Lib.hid (PT.out.pure t9)
  have D99 : Hid (w9.heap[g9]? = some (.cells (u8s R).toArray 28 (0, 0))) := Lib.hid (t9.obj D9.out (fun e => e))
  have HP9 : Hid (Hashs w9 (.slice ra pn rc) P) := Lib.hid (HP.out.pure t9)
  clear PT D9 HP
  have PT := Lib.hid PT9.out
  have D9 := Lib.hid D99.out
  have HP := Lib.hid HP9.out
  clear PT9 D99 HP9
  refine hK.out _ _ (And.intro (PT.out.cell HCELL.out (fun e => e)) (range_of_row D9.out)) ?_
  clear hK K t9
  try simp only [List.getElem_toArray, List.getElem_cons_succ, List.getElem_cons_zero, Act.put, List.setIfInBounds_toArray, List.set_cons_zero, List.set_cons_succ]
  refine wpAnyH_take (i := 10) (v := .int .i64 0) rfl (by kernel_rfl) (by kernel_rfl) (by kernel_rfl) (fun _ _ _ h => h) (Or.inl ⟨by rfl, fun w hSw => by go_simp⟩) (And.intro (PT.out.cell HCELL.out (fun e => e)) (range_of_row D9.out)) ?_
  simp only [List.getElem_toArray, List.getElem_cons_succ, List.getElem_cons_zero, Act.put, List.setIfInBounds_toArray, List.set_cons_zero, List.set_cons_succ]
  refine wpAnyH_done (by kernel_rfl) ?_ _
  have HSRC : Hid (∀ W, Hashs W (.slice ra pn rc) P → Src Try.prog 32 41 (.slice ra pn rc) pn (hrow P) W) := Lib.hid fun W hW => by have := hW.src; rwa [← HPN.out.1] at this
  go_wp2_with fail
  refine wp_region_cut6 (R := fun _ _ _ _ ao' c' w' => Pure w w' ∧ w'.heap[g9]? = some (.cells (u8s R).toArray 28 (0, 0)) ∧ w'.ownsRow 0 28 32 (.slice ao' (pn + 1) c') (pn + 1) (hrow (P ++ [R]))) ?_
  apply Exists.intro
  constructor
  · refine wp_region_held_drew (S := fun w' => w'.rangeAt g9 0 (u8s R)) (by kernel_rfl) (show w9.drew.rangeAt g9 0 (u8s R) from range_of_row D9.out) (fun _ => ?_)
    have td : Pure w9 w9.drew := (Turn.refl _ _).drew
    have PT := Lib.hid (PT.out.pure td); have HP := Lib.hid (HP.out.pure td); have D9 := Lib.hid (td.obj D9.out (fun e => e))
    have HLT := Lib.hid (fun hne => HP.out.lt hne)
    obtain ⟨N0, hN0, LW0⟩ : ∃ N0, N0 = w9.drew.heap.size ∧ N0 ≤ w9.drew.heap.size := ⟨_, rfl, Nat.le_refl _⟩
    have LW := LW0
    rw [← hN0] at HLT
    have lw0 : w.heap.size ≤ N0 := by have := PT.out.size; rw [hN0]; exact this
    have lg90 : g9 < N0 := by rw [hN0]; exact (Array.getElem?_eq_some_iff.1 D9.out).1
    clear hN0 td LW0
    refine wpAnyH_take (i := 1) (v := .slice ra pn rc) rfl (by kernel_rfl) (by kernel_rfl) (by kernel_rfl) (fun _ _ _ h => nomatch h.1) (Or.inl ⟨by rfl, fun w hSw => by go_simp⟩) (range_of_row D9.out) ?_
    simp only [List.getElem_toArray, List.getElem_cons_succ, List.getElem_cons_zero, Act.put, List.setIfInBounds_toArray, List.set_cons_zero, List.set_cons_succ]
    refine wpAnyH_take (i := 3) (v := hv R) rfl (by kernel_rfl) (by kernel_rfl) (by kernel_rfl) (fun _ _ _ h => nomatch h.1) (yieldsIf_load_mid (by rfl) 28 _ rfl g9 0 rfl (u8s R) _ (fun w h => h) hu28 rfl (info28_l hR)) (range_of_row D9.out) ?_
    simp only [List.getElem_toArray, List.getElem_cons_succ, List.getElem_cons_zero, Act.put, List.setIfInBounds_toArray, List.set_cons_zero, List.set_cons_succ]
    refine wpAnyH_ready (rs := [0, 4]) (by kernel_rfl) (by simp) (AllReadyH.cons rfl (fun K hK => ?_) (AllReadyH.cons rfl (fun K hK => ?_) AllReadyH.nil))
    · rw [if_pos (by rfl)]
      refine wp_empty_n rfl ?_
      intro gA w10 e9 c9 t9 s9
      have HO : Hid (w10.ownsRow 0 28 32 (.slice (some ⟨gA, 0, none⟩) 0 0) 0 []) := Lib.hid ⟨rfl, .inr ⟨gA, 0, #[], rfl, Nat.zero_le _, c9, Nat.le_refl _, by decide, rfl, rfl⟩⟩
      have PT := Lib.hid (PT.out.pure t9); have HP := Lib.hid (HP.out.pure t9); have D9 := Lib.hid (t9.obj D9.out (fun e => e))
      have LA : N0 ≤ gA := by omega
      have NA : gA < w10.heap.size := by omega
      have LW : N0 ≤ w10.heap.size := by omega
      clear e9 c9 s9
      refine hK.out _ _ (range_of_row D9.out) (fun _ => ?_)
      clear hK K t9
      try simp only [List.getElem_toArray, List.getElem_cons_zero, Act.put, List.setIfInBounds_toArray, List.set_cons_zero, List.set_cons_succ]
      refine wpAnyH_ready (rs := [2, 4]) (by kernel_rfl) (by simp) (AllReadyH.cons rfl (fun K hK => ?_) (AllReadyH.cons rfl (fun K hK => ?_) AllReadyH.nil))
      · rw [if_pos (by rfl)]
        refine wp_append_0 _ _ 41 41 28 rfl i28 z28 32 32 Try.underlying41 hi28 hz28 hsz hby hzs _ rfl HO.out _ rfl pn _ (HSRC.out _ HP.out) (by omega) (by omega) ?_
        intro ao8 c8 w22 hown8 ht8 hb8
        have LO8 : Hid (∀ q, (Value.slice ao8 pn c8).ownBlock = some q → N0 ≤ q) := Lib.hid fun q hq => by
          rcases hb8.out with e | e
          · have : gA = q := Option.some.inj (e.symm.trans hq); omega
          · have := Option.some.inj (e.symm.trans hq); omega
        have PT := Lib.hid (PT.out.trans ht8 fun q hq e => by have : gA = q := Option.some.inj e; omega : Pure w w22); have D9 := Lib.hid (ht8.obj D9.out (fun e => by have : gA = g9 := Option.some.inj e; omega))
        have NA : gA < w22.heap.size := by have := ht8.size; omega
        have LW : N0 ≤ w22.heap.size := by omega
        have HP := Lib.hid (HP.out.turn ht8 (fun hne q hq e => by have : gA = q := Option.some.inj e; have := HLT.out hne q hq; omega))
        have HO := Lib.hid hown8
        refine hK.out _ _ (range_of_row D9.out) (fun _ => ?_)
        clear hK K hown8 ht8 hb8
        try simp only [List.getElem_toArray, List.getElem_cons_succ, List.getElem_cons_zero, Act.put, List.setIfInBounds_toArray, List.set_cons_zero, List.set_cons_succ]
        refine wpAnyH_step (i := 4) (by kernel_rfl) rfl fun K hK => ?_
        rw [if_pos (by rfl)]
        refine wp_hash_n _ rfl R rfl hR ?_
        intro gB w34 e9 c9 t9 s9
        have CB := Lib.hid c9
        have PT := Lib.hid (PT.out.pure t9); have HP := Lib.hid (HP.out.pure t9); have D9 := Lib.hid (t9.obj D9.out (fun e => e)); have HO := Lib.hid (t9.own HO.out (fun _ _ e => e))
        have NB : gB < w34.heap.size := by omega
        have NE : gA ≠ gB := by omega
        have NA : gA < w34.heap.size := by omega
        have LW : N0 ≤ w34.heap.size := by omega
        clear e9 c9 s9
        refine hK.out _ _ (range_of_row D9.out) ?_
        clear hK K t9
        try simp only [List.getElem_toArray, List.getElem_cons_succ, List.getElem_cons_zero, Act.put, List.setIfInBounds_toArray, List.set_cons_zero, List.set_cons_succ]
        refine wpAnyH_step (i := 5) (by kernel_rfl) rfl fun K hK => ?_
        have HS5 : Hid (Src Try.prog 32 41 (.slice (some ⟨gB, 0, none⟩) 1 1) 1 (u8s R) w34) := Lib.hid (Src.ofSlice _ Try.underlying41 _ _ _ _ (by rw [u8s_length, hR]) (World.news_of_block CB.out) (u8s_one _))
        rw [if_pos (by rfl)]
        refine wp_append_n _ _ 41 41 28 rfl i28 z28 32 32 Try.underlying41 hi28 hz28 hsz hby hzs _ _ _ rfl HO.out _ rfl 1 _ HS5.out (by omega) (by omega) ?_
        intro ao6 c6 w6x hown6 ht6 _
        have PT := Lib.hid (PT.out.trans ht6 fun q hq e => by have := LO8.out _ e; omega : Pure w w6x); have D9 := Lib.hid (ht6.obj D9.out (fun e => by have := LO8.out _ e; omega))
        have hrow6 : hrow P ++ u8s R = hrow (P ++ [R]) := by rw [hrow_app]; simp [hrow]
        rw [hrow6] at hown6
        have HO6 := Lib.hid hown6
        refine hK.out _ _ (range_of_row D9.out) ?_
        clear hK K hown6 ht6
        try simp only [List.getElem_toArray, List.getElem_cons_succ, List.getElem_cons_zero, Act.put, List.setIfInBounds_toArray, List.set_cons_zero, List.set_cons_succ]
        refine wpAnyH_take (i := 6) (v := .slice ao6 (pn + 1) c6) rfl (by kernel_rfl) (by kernel_rfl) (by kernel_rfl) (fun _ _ _ h => nomatch h.1) (Or.inl ⟨by rfl, fun w hSw => by go_simp⟩) (range_of_row D9.out) ?_
        simp only [List.getElem_toArray, List.getElem_cons_succ, List.getElem_cons_zero, Act.put, List.setIfInBounds_toArray, List.set_cons_zero, List.set_cons_succ]
        refine wpAnyH_done (by kernel_rfl) ?_ _
        exact ⟨rfl, gA, ao8, c8, gB, ao6, c6, rfl, PT.out, D9.out, HO6.out⟩
      · rw [if_pos (by rfl)]
        refine wp_hash_n _ rfl R rfl hR ?_
        intro gB w24 e9 c9 t9 s9
        have CB := Lib.hid c9
        have PT := Lib.hid (PT.out.pure t9); have HP := Lib.hid (HP.out.pure t9); have D9 := Lib.hid (t9.obj D9.out (fun e => e)); have HO := Lib.hid (t9.own HO.out (fun _ _ e => e))
        have NB : gB < w24.heap.size := by omega
        have NE : gA ≠ gB := by omega
        have NA : gA < w24.heap.size := by omega
        have LW : N0 ≤ w24.heap.size := by omega
        clear e9 c9 s9
        refine hK.out _ _ (range_of_row D9.out) (fun _ => ?_)
        clear hK K t9
        try simp only [List.getElem_toArray, List.getElem_cons_succ, List.getElem_cons_zero, Act.put, List.setIfInBounds_toArray, List.set_cons_zero, List.set_cons_succ]
        refine wpAnyH_step (i := 2) (by kernel_rfl) rfl fun K hK => ?_
        rw [if_pos (by rfl)]
        refine wp_append_0 _ _ 41 41 28 rfl i28 z28 32 32 Try.underlying41 hi28 hz28 hsz hby hzs _ rfl HO.out _ rfl pn _ (HSRC.out _ HP.out) (by omega) (by omega) ?_
        intro ao8 c8 w32 hown8 ht8 hb8
        have LO8 : Hid (∀ q, (Value.slice ao8 pn c8).ownBlock = some q → N0 ≤ q) := Lib.hid fun q hq => by
          rcases hb8.out with e | e
          · have : gA = q := Option.some.inj (e.symm.trans hq); omega
          · have := Option.some.inj (e.symm.trans hq); omega
        have PT := Lib.hid (PT.out.trans ht8 fun q hq e => by have : gA = q := Option.some.inj e; omega : Pure w w32); have D9 := Lib.hid (ht8.obj D9.out (fun e => by have : gA = g9 := Option.some.inj e; omega))
        have CB := Lib.hid (ht8.obj CB.out (fun e => by have : gA = gB := Option.some.inj e; omega))
        have NA : gA < w32.heap.size := by have := ht8.size; omega
        have LW : N0 ≤ w32.heap.size := by omega
        have HP := Lib.hid (HP.out.turn ht8 (fun hne q hq e => by have : gA = q := Option.some.inj e; have := HLT.out hne q hq; omega))
        have HO := Lib.hid hown8
        refine hK.out _ _ (range_of_row D9.out) ?_
        clear hK K hown8 ht8 hb8
        try simp only [List.getElem_toArray, List.getElem_cons_succ, List.getElem_cons_zero, Act.put, List.setIfInBounds_toArray, List.set_cons_zero, List.set_cons_succ]
        refine wpAnyH_step (i := 5) (by kernel_rfl) rfl fun K hK => ?_
        have HS5 : Hid (Src Try.prog 32 41 (.slice (some ⟨gB, 0, none⟩) 1 1) 1 (u8s R) w32) := Lib.hid (Src.ofSlice _ Try.underlying41 _ _ _ _ (by rw [u8s_length, hR]) (World.news_of_block CB.out) (u8s_one _))
        rw [if_pos (by rfl)]
        refine wp_append_n _ _ 41 41 28 rfl i28 z28 32 32 Try.underlying41 hi28 hz28 hsz hby hzs _ _ _ rfl HO.out _ rfl 1 _ HS5.out (by omega) (by omega) ?_
        intro ao6 c6 w6x hown6 ht6 _
        have PT := Lib.hid (PT.out.trans ht6 fun q hq e => by have := LO8.out _ e; omega : Pure w w6x); have D9 := Lib.hid (ht6.obj D9.out (fun e => by have := LO8.out _ e; omega))
        have hrow6 : hrow P ++ u8s R = hrow (P ++ [R]) := by rw [hrow_app]; simp [hrow]
        rw [hrow6] at hown6
        have HO6 := Lib.hid hown6
        refine hK.out _ _ (range_of_row D9.out) ?_
        clear hK K hown6 ht6
        try simp only [List.getElem_toArray, List.getElem_cons_succ, List.getElem_cons_zero, Act.put, List.setIfInBounds_toArray, List.set_cons_zero, List.set_cons_succ]
        refine wpAnyH_take (i := 6) (v := .slice ao6 (pn + 1) c6) rfl (by kernel_rfl) (by kernel_rfl) (by kernel_rfl) (fun _ _ _ h => nomatch h.1) (Or.inl ⟨by rfl, fun w hSw => by go_simp⟩) (range_of_row D9.out) ?_
        simp only [List.getElem_toArray, List.getElem_cons_succ, List.getElem_cons_zero, Act.put, List.setIfInBounds_toArray, List.set_cons_zero, List.set_cons_succ]
        refine wpAnyH_done (by kernel_rfl) ?_ _
        exact ⟨rfl, gA, ao8, c8, gB, ao6, c6, rfl, PT.out, D9.out, HO6.out⟩
    · rw [if_pos (by rfl)]
      refine wp_hash_n _ rfl R rfl hR ?_
      intro gB w14 e9 c9 t9 s9
      have CB := Lib.hid c9
      have PT := Lib.hid (PT.out.pure t9); have HP := Lib.hid (HP.out.pure t9); have D9 := Lib.hid (t9.obj D9.out (fun e => e))
      have NB : gB < w14.heap.size := by omega
      have LW : N0 ≤ w14.heap.size := by omega
      clear e9 c9 s9
      refine hK.out _ _ (range_of_row D9.out) (fun _ => ?_)
      clear hK K t9
      try simp only [List.getElem_toArray, List.getElem_cons_succ, List.getElem_cons_zero, Act.put, List.setIfInBounds_toArray, List.set_cons_zero, List.set_cons_succ]
      refine wpAnyH_step (i := 0) (by kernel_rfl) rfl fun K hK => ?_
      rw [if_pos (by rfl)]
      refine wp_empty_n rfl ?_
      intro gA w20 e9 c9 t9 s9
      have HO : Hid (w20.ownsRow 0 28 32 (.slice (some ⟨gA, 0, none⟩) 0 0) 0 []) := Lib.hid ⟨rfl, .inr ⟨gA, 0, #[], rfl, Nat.zero_le _, c9, Nat.le_refl _, by decide, rfl, rfl⟩⟩
      have PT := Lib.hid (PT.out.pure t9); have HP := Lib.hid (HP.out.pure t9); have D9 := Lib.hid (t9.obj D9.out (fun e => e)); have CB := Lib.hid (t9.obj CB.out (fun e => e))
      have LA : N0 ≤ gA := by omega
      have NA : gA < w20.heap.size := by omega
      have NE : gA ≠ gB := by omega
      have NB : gB < w20.heap.size := by omega
      have LW : N0 ≤ w20.heap.size := by omega
      clear e9 c9 s9
      refine hK.out _ _ (range_of_row D9.out) ?_
      clear hK K t9
      try simp only [List.getElem_toArray, List.getElem_cons_zero, Act.put, List.setIfInBounds_toArray, List.set_cons_zero, List.set_cons_succ]
      refine wpAnyH_step (i := 2) (by kernel_rfl) rfl fun K hK => ?_
      rw [if_pos (by rfl)]
      refine wp_append_0 _ _ 41 41 28 rfl i28 z28 32 32 Try.underlying41 hi28 hz28 hsz hby hzs _ rfl HO.out _ rfl pn _ (HSRC.out _ HP.out) (by omega) (by omega) ?_
      intro ao8 c8 w32 hown8 ht8 hb8
      have LO8 : Hid (∀ q, (Value.slice ao8 pn c8).ownBlock = some q → N0 ≤ q) := Lib.hid fun q hq => by
        rcases hb8.out with e | e
        · have : gA = q := Option.some.inj (e.symm.trans hq); omega
        · have := Option.some.inj (e.symm.trans hq); omega
      have PT := Lib.hid (PT.out.trans ht8 fun q hq e => by have : gA = q := Option.some.inj e; omega : Pure w w32); have D9 := Lib.hid (ht8.obj D9.out (fun e => by have : gA = g9 := Option.some.inj e; omega))
      have CB := Lib.hid (ht8.obj CB.out (fun e => by have : gA = gB := Option.some.inj e; omega))
      have NA : gA < w32.heap.size := by have := ht8.size; omega
      have LW : N0 ≤ w32.heap.size := by omega
      have HP := Lib.hid (HP.out.turn ht8 (fun hne q hq e => by have : gA = q := Option.some.inj e; have := HLT.out hne q hq; omega))
      have HO := Lib.hid hown8
      refine hK.out _ _ (range_of_row D9.out) ?_
      clear hK K hown8 ht8 hb8
      try simp only [List.getElem_toArray, List.getElem_cons_succ, List.getElem_cons_zero, Act.put, List.setIfInBounds_toArray, List.set_cons_zero, List.set_cons_succ]
      refine wpAnyH_step (i := 5) (by kernel_rfl) rfl fun K hK => ?_
      have HS5 : Hid (Src Try.prog 32 41 (.slice (some ⟨gB, 0, none⟩) 1 1) 1 (u8s R) w32) := Lib.hid (Src.ofSlice _ Try.underlying41 _ _ _ _ (by rw [u8s_length, hR]) (World.news_of_block CB.out) (u8s_one _))
      rw [if_pos (by rfl)]
      refine wp_append_n _ _ 41 41 28 rfl i28 z28 32 32 Try.underlying41 hi28 hz28 hsz hby hzs _ _ _ rfl HO.out _ rfl 1 _ HS5.out (by omega) (by omega) ?_
      intro ao6 c6 w6x hown6 ht6 _
      have PT := Lib.hid (PT.out.trans ht6 fun q hq e => by have := LO8.out _ e; omega : Pure w w6x); have D9 := Lib.hid (ht6.obj D9.out (fun e => by have := LO8.out _ e; omega))
      have hrow6 : hrow P ++ u8s R = hrow (P ++ [R]) := by rw [hrow_app]; simp [hrow]
      rw [hrow6] at hown6
      have HO6 := Lib.hid hown6
      refine hK.out _ _ (range_of_row D9.out) ?_
      clear hK K hown6 ht6
      try simp only [List.getElem_toArray, List.getElem_cons_succ, List.getElem_cons_zero, Act.put, List.setIfInBounds_toArray, List.set_cons_zero, List.set_cons_succ]
      refine wpAnyH_take (i := 6) (v := .slice ao6 (pn + 1) c6) rfl (by kernel_rfl) (by kernel_rfl) (by kernel_rfl) (fun _ _ _ h => nomatch h.1) (Or.inl ⟨by rfl, fun w hSw => by go_simp⟩) (range_of_row D9.out) ?_
      simp only [List.getElem_toArray, List.getElem_cons_succ, List.getElem_cons_zero, Act.put, List.setIfInBounds_toArray, List.set_cons_zero, List.set_cons_succ]
      refine wpAnyH_done (by kernel_rfl) ?_ _
      exact ⟨rfl, gA, ao8, c8, gB, ao6, c6, rfl, PT.out, D9.out, HO6.out⟩
  · rintro _ _ _ _ wba wbc wb ⟨hpt, hD9, hown⟩
    have PT := Lib.hid hpt; have HLONG := Lib.hid hown; have D9 := Lib.hid hD9
    clear hpt hown hD9
    have HP : Hid (Hashs wb (.slice wba (pn + 1) wbc) (P ++ [R])) := Lib.hid (Hashs.own HLONG.out HP32.out)
    go_wp2_with fail
    refine wp_region_held_drew (S := fun w' => w'.cell? ⟨b, o + kk, none⟩ = some (.string (bstr x)) ∧ w'.rangeAt g9 0 (u8s R)) (by kernel_rfl) (show wb.drew.cell? ⟨b, o + kk, none⟩ = some (.string (bstr x)) ∧ wb.drew.rangeAt g9 0 (u8s R) from ⟨PT.out.cell HCELL.out (fun e => e), range_of_row D9.out⟩) (fun _ => ?_)
    have td : Pure wb wb.drew := (Turn.refl _ _).drew
    have PT := Lib.hid (PT.out.pure td); have D9 := Lib.hid (td.obj D9.out (fun e => e)); have HP := Lib.hid (HP.out.pure td)
    clear td
    generalize wb.drew = wc at *
    refine wpAnyH_take (i := 0) (v := .slice (some ⟨b, o, none⟩) n c) rfl (by kernel_rfl) (by kernel_rfl) (by kernel_rfl) (fun _ _ _ h => h) (Or.inl ⟨by rfl, fun w hSw => by go_simp⟩) (And.intro (PT.out.cell HCELL.out (fun e => e)) (range_of_row D9.out)) ?_
    simp only [List.getElem_toArray, List.getElem_cons_zero, Act.put, List.setIfInBounds_toArray, List.set_cons_zero, List.set_cons_succ]
    refine wpAnyH_take (i := 1) (v := .int .i64 (kk : Int)) rfl (by kernel_rfl) (by kernel_rfl) (by kernel_rfl) (fun _ _ _ h => h) (Or.inl ⟨by rfl, fun w hSw => by go_simp⟩) (And.intro (PT.out.cell HCELL.out (fun e => e)) (range_of_row D9.out)) ?_
    simp only [List.getElem_toArray, List.getElem_cons_succ, List.getElem_cons_zero, Act.put, List.setIfInBounds_toArray, List.set_cons_zero, List.set_cons_succ]
    refine wpAnyH_take (i := 2) (v := .pointer (some ⟨b, o + kk, none⟩)) rfl (by kernel_rfl) (by kernel_rfl) (by kernel_rfl) (fun _ _ _ h => h) (Or.inl ⟨by rfl, fun w hSw => by go_simp⟩) (And.intro (PT.out.cell HCELL.out (fun e => e)) (range_of_row D9.out)) ?_
    simp only [List.getElem_toArray, List.getElem_cons_succ, List.getElem_cons_zero, Act.put, List.setIfInBounds_toArray, List.set_cons_zero, List.set_cons_succ]
    refine wpAnyH_take (i := 3) (v := .string (bstr x)) rfl (by kernel_rfl) (by kernel_rfl) (by kernel_rfl) (fun _ _ _ h => h) (Or.inl ⟨by rfl, fun w hSw => by obtain ⟨h1, h2⟩ := hSw; go_simp⟩) (And.intro (PT.out.cell HCELL.out (fun e => e)) (range_of_row D9.out)) ?_
    simp only [List.getElem_toArray, List.getElem_cons_succ, List.getElem_cons_zero, Act.put, List.setIfInBounds_toArray, List.set_cons_zero, List.set_cons_succ]
    refine wpAnyH_take (i := 4) (v := .int .i64 (kk : Int)) rfl (by kernel_rfl) (by kernel_rfl) (by kernel_rfl) (fun _ _ _ h => h) (Or.inl ⟨by rfl, fun w hSw => by go_simp⟩) (And.intro (PT.out.cell HCELL.out (fun e => e)) (range_of_row D9.out)) ?_
    simp only [List.getElem_toArray, List.getElem_cons_succ, List.getElem_cons_zero, Act.put, List.setIfInBounds_toArray, List.set_cons_zero, List.set_cons_succ]
    refine wpAnyH_take (i := 5) (v := .slice (some ⟨b, o, none⟩) n c) rfl (by kernel_rfl) (by kernel_rfl) (by kernel_rfl) (fun _ _ _ h => h) (Or.inl ⟨by rfl, fun w hSw => by go_simp⟩) (And.intro (PT.out.cell HCELL.out (fun e => e)) (range_of_row D9.out)) ?_
    simp only [List.getElem_toArray, List.getElem_cons_succ, List.getElem_cons_zero, Act.put, List.setIfInBounds_toArray, List.set_cons_zero, List.set_cons_succ]
    refine wpAnyH_take (i := 6) (v := .int .i64 (n : Int)) rfl (by kernel_rfl) (by kernel_rfl) (by kernel_rfl) (fun _ _ _ h => h) (Or.inl ⟨by rfl, fun w hSw => by go_simp⟩) (And.intro (PT.out.cell HCELL.out (fun e => e)) (range_of_row D9.out)) ?_
    simp only [List.getElem_toArray, List.getElem_cons_succ, List.getElem_cons_zero, Act.put, List.setIfInBounds_toArray, List.set_cons_zero, List.set_cons_succ]
    refine wpAnyH_take (i := 7) (v := .slice wba (pn + 1) wbc) rfl (by kernel_rfl) (by kernel_rfl) (by kernel_rfl) (fun _ _ _ h => h) (Or.inl ⟨by rfl, fun w hSw => by go_simp⟩) (And.intro (PT.out.cell HCELL.out (fun e => e)) (range_of_row D9.out)) ?_
    simp only [List.getElem_toArray, List.getElem_cons_succ, List.getElem_cons_zero, Act.put, List.setIfInBounds_toArray, List.set_cons_zero, List.set_cons_succ]
    refine wpAnyH_take (i := 8) (v := hv R) rfl (by kernel_rfl) (by kernel_rfl) (by kernel_rfl) (fun _ _ _ h => h) (yieldsIf_load_mid (by rfl) 28 _ rfl g9 0 rfl (u8s R) _ (fun w h => h.2) hu28 rfl (info28_l hR)) (And.intro (PT.out.cell HCELL.out (fun e => e)) (range_of_row D9.out)) ?_
    simp only [List.getElem_toArray, List.getElem_cons_succ, List.getElem_cons_zero, Act.put, List.setIfInBounds_toArray, List.set_cons_zero, List.set_cons_succ]
    refine wpAnyH_step (i := 9) (by kernel_rfl) rfl fun K hK => ?_
    go_simp
    refine (HK1.out _ _ HP.out).mono ?_
    rintro e w9 ⟨rfl, t9⟩
    have PT9 : Hid (Pure w w9) := Lib.hid (PT.out.pure t9)
    have D99 : Hid (w9.heap[g9]? = some (.cells (u8s R).toArray 28 (0, 0))) := Lib.hid (t9.obj D9.out (fun e => e))
    have HP9 : Hid (Hashs w9 (.slice wba (pn + 1) wbc) (P ++ [R])) := Lib.hid (HP.out.pure t9)
    clear PT D9 HP
    have PT := Lib.hid PT9.out
    have D9 := Lib.hid D99.out
    have HP := Lib.hid HP9.out
    clear PT9 D99 HP9
    refine hK.out _ _ (And.intro (PT.out.cell HCELL.out (fun e => e)) (range_of_row D9.out)) ?_
    clear hK K t9
    try simp only [List.getElem_toArray, List.getElem_cons_succ, List.getElem_cons_zero, Act.put, List.setIfInBounds_toArray, List.set_cons_zero, List.set_cons_succ]
    refine wpAnyH_take (i := 10) (v := .int .i64 1001) rfl (by kernel_rfl) (by kernel_rfl) (by kernel_rfl) (fun _ _ _ h => h) (Or.inl ⟨by rfl, fun w hSw => by go_simp⟩) (And.intro (PT.out.cell HCELL.out (fun e => e)) (range_of_row D9.out)) ?_
    simp only [List.getElem_toArray, List.getElem_cons_succ, List.getElem_cons_zero, Act.put, List.setIfInBounds_toArray, List.set_cons_zero, List.set_cons_succ]
    refine wpAnyH_done (by kernel_rfl) ?_ _
    go_wp2_with fail
    refine (HCO.out _ _ (HT.out.pure PT.out)).mono ?_
    rintro e wd ⟨r, rfl, hrd, _, tD⟩
    have PT := Lib.hid (PT.out.pure tD); have D9 := Lib.hid (tD.obj D9.out (fun e => e))
    have HP := Lib.hid (Hashs.own hrd HCq.out)
    obtain ⟨sa, sc, rfl, _⟩ := ownsRow_shape hrd
    clear hrd tD
    go_wp2_with fail
    refine (HRO.out _ _ (HTQ.out.pure PT.out)).mono ?_
    rintro e we ⟨rfl, te⟩
    have PT := Lib.hid (PT.out.pure te); have D9 := Lib.hid (te.obj D9.out (fun e => e)); have HP := Lib.hid (HP.out.pure te)
    clear te
    go_wp2_with (refine wpList_allocZ rfl 28 rfl X HZ.out ?_)
    intro g17 wf ef cf tf sf
    have l17 : w.heap.size ≤ g17 := by have := PT.out.size; omega
    have l917 : g9 < g17 := by have := (Array.getElem?_eq_some_iff.1 D9.out).1; omega
    have HLT17 : Hid (S ≠ [] → ∀ q, (Value.slice sa sn sc).ownBlock = some q → q < g17) := Lib.hid fun hne q hq => by have := HP.out.lt hne q hq; omega
    clear ef
    go_wp2_with (refine wpList_store_blk rfl 28 _ _ rfl g17 _ (u8s O) _ rfl rfl cf (size28 hXl hO) (info28_l hO) (u8s_one _) ?_)
    intro wg cg tg _
    have HP := Lib.hid ((HP.out.pure tf).turn tg (fun hne q hq e => by have := HLT17.out hne q hq; omega))
    have D17 := Lib.hid cg; have D9 := Lib.hid (tg.obj (tf.obj D9.out (fun e => e)) (by omega)); have PT := Lib.hid ((PT.out.pure tf).trans tg fun q hq e => by omega : Pure w wg)
    clear cf tf sf cg tg HLT17
    go_wp2_with (first | (refine wpList_load_row rfl 28 _ rfl g17 rfl _ (u8s O).toArray _ _ D17.out hu28 rfl (info28_a hO) ?_) | (refine wpList_load_row rfl 28 _ rfl g9 rfl _ (u8s R).toArray _ _ D9.out hu28 rfl (info28_a hR) ?_))
    refine (HC0.out _ _ HP.out).mono ?_
    rintro e wh ⟨rfl, th⟩
    have PT := Lib.hid (PT.out.pure th); have D9 := Lib.hid (th.obj D9.out (fun e => e)); have D17 := Lib.hid (th.obj D17.out (fun e => e)); have HP := Lib.hid (HP.out.pure th)
    clear th
    have HSRC : Hid (∀ W, Hashs W (.slice sa sn sc) S → Src Try.prog 32 41 (.slice sa sn sc) sn (hrow S) W) := Lib.hid fun W hW => by have := hW.src; rwa [← HPN.out.2] at this
    go_wp2_with fail
    refine wp_region_cut6 (R := fun _ _ _ _ ao' c' w' => Pure w w' ∧ w'.heap[g9]? = some (.cells (u8s R).toArray 28 (0, 0)) ∧ w'.heap[g17]? = some (.cells (u8s O).toArray 28 (0, 0)) ∧ w'.ownsRow 0 28 32 (.slice ao' (sn + 1) c') (sn + 1) (hrow (S ++ [R]))) ?_
    apply Exists.intro
    constructor
    · refine wp_region_held_drew (S := fun w' => w'.rangeAt g9 0 (u8s R)) (by kernel_rfl) (show wh.drew.rangeAt g9 0 (u8s R) from range_of_row D9.out) (fun _ => ?_)
      have td : Pure wh wh.drew := (Turn.refl _ _).drew
      have PT := Lib.hid (PT.out.pure td); have HP := Lib.hid (HP.out.pure td); have D9 := Lib.hid (td.obj D9.out (fun e => e)); have D17 := Lib.hid (td.obj D17.out (fun e => e))
      have HLT := Lib.hid (fun hne => HP.out.lt hne)
      obtain ⟨N0, hN0, LW0⟩ : ∃ N0, N0 = wh.drew.heap.size ∧ N0 ≤ wh.drew.heap.size := ⟨_, rfl, Nat.le_refl _⟩
      have LW := LW0
      rw [← hN0] at HLT
      have lw0 : w.heap.size ≤ N0 := by have := PT.out.size; rw [hN0]; exact this
      have lg90 : g9 < N0 := by rw [hN0]; exact (Array.getElem?_eq_some_iff.1 D9.out).1
      have lg170 : g17 < N0 := by rw [hN0]; exact (Array.getElem?_eq_some_iff.1 D17.out).1
      clear hN0 td LW0
      refine wpAnyH_take (i := 1) (v := .slice sa sn sc) rfl (by kernel_rfl) (by kernel_rfl) (by kernel_rfl) (fun _ _ _ h => nomatch h.1) (Or.inl ⟨by rfl, fun w hSw => by go_simp⟩) (range_of_row D9.out) ?_
      simp only [List.getElem_toArray, List.getElem_cons_succ, List.getElem_cons_zero, Act.put, List.setIfInBounds_toArray, List.set_cons_zero, List.set_cons_succ]
      refine wpAnyH_take (i := 3) (v := hv R) rfl (by kernel_rfl) (by kernel_rfl) (by kernel_rfl) (fun _ _ _ h => nomatch h.1) (yieldsIf_load_mid (by rfl) 28 _ rfl g9 0 rfl (u8s R) _ (fun w h => h) hu28 rfl (info28_l hR)) (range_of_row D9.out) ?_
      simp only [List.getElem_toArray, List.getElem_cons_succ, List.getElem_cons_zero, Act.put, List.setIfInBounds_toArray, List.set_cons_zero, List.set_cons_succ]
      refine wpAnyH_ready (rs := [0, 4]) (by kernel_rfl) (by simp) (AllReadyH.cons rfl (fun K hK => ?_) (AllReadyH.cons rfl (fun K hK => ?_) AllReadyH.nil))
      · rw [if_pos (by rfl)]
        refine wp_empty_n rfl ?_
        intro gA w10 e9 c9 t9 s9
        have HO : Hid (w10.ownsRow 0 28 32 (.slice (some ⟨gA, 0, none⟩) 0 0) 0 []) := Lib.hid ⟨rfl, .inr ⟨gA, 0, #[], rfl, Nat.zero_le _, c9, Nat.le_refl _, by decide, rfl, rfl⟩⟩
        have PT := Lib.hid (PT.out.pure t9); have HP := Lib.hid (HP.out.pure t9); have D9 := Lib.hid (t9.obj D9.out (fun e => e)); have D17 := Lib.hid (t9.obj D17.out (fun e => e))
        have LA : N0 ≤ gA := by omega
        have NA : gA < w10.heap.size := by omega
        have LW : N0 ≤ w10.heap.size := by omega
        clear e9 c9 s9
        refine hK.out _ _ (range_of_row D9.out) (fun _ => ?_)
        clear hK K t9
        try simp only [List.getElem_toArray, List.getElem_cons_zero, Act.put, List.setIfInBounds_toArray, List.set_cons_zero, List.set_cons_succ]
        refine wpAnyH_ready (rs := [2, 4]) (by kernel_rfl) (by simp) (AllReadyH.cons rfl (fun K hK => ?_) (AllReadyH.cons rfl (fun K hK => ?_) AllReadyH.nil))
        · rw [if_pos (by rfl)]
          refine wp_append_0 _ _ 41 41 28 rfl i28 z28 32 32 Try.underlying41 hi28 hz28 hsz hby hzs _ rfl HO.out _ rfl sn _ (HSRC.out _ HP.out) (by omega) (by omega) ?_
          intro ao8 c8 w22 hown8 ht8 hb8
          have LO8 : Hid (∀ q, (Value.slice ao8 sn c8).ownBlock = some q → N0 ≤ q) := Lib.hid fun q hq => by
            rcases hb8.out with e | e
            · have : gA = q := Option.some.inj (e.symm.trans hq); omega
            · have := Option.some.inj (e.symm.trans hq); omega
          have PT := Lib.hid (PT.out.trans ht8 fun q hq e => by have : gA = q := Option.some.inj e; omega : Pure w w22); have D9 := Lib.hid (ht8.obj D9.out (fun e => by have : gA = g9 := Option.some.inj e; omega)); have D17 := Lib.hid (ht8.obj D17.out (fun e => by have : gA = g17 := Option.some.inj e; omega))
          have NA : gA < w22.heap.size := by have := ht8.size; omega
          have LW : N0 ≤ w22.heap.size := by omega
          have HP := Lib.hid (HP.out.turn ht8 (fun hne q hq e => by have : gA = q := Option.some.inj e; have := HLT.out hne q hq; omega))
          have HO := Lib.hid hown8
          refine hK.out _ _ (range_of_row D9.out) (fun _ => ?_)
          clear hK K hown8 ht8 hb8
          try simp only [List.getElem_toArray, List.getElem_cons_succ, List.getElem_cons_zero, Act.put, List.setIfInBounds_toArray, List.set_cons_zero, List.set_cons_succ]
          refine wpAnyH_step (i := 4) (by kernel_rfl) rfl fun K hK => ?_
          rw [if_pos (by rfl)]
          refine wp_hash_n _ rfl R rfl hR ?_
          intro gB w34 e9 c9 t9 s9
          have CB := Lib.hid c9
          have PT := Lib.hid (PT.out.pure t9); have HP := Lib.hid (HP.out.pure t9); have D9 := Lib.hid (t9.obj D9.out (fun e => e)); have D17 := Lib.hid (t9.obj D17.out (fun e => e)); have HO := Lib.hid (t9.own HO.out (fun _ _ e => e))
          have NB : gB < w34.heap.size := by omega
          have NE : gA ≠ gB := by omega
          have NA : gA < w34.heap.size := by omega
          have LW : N0 ≤ w34.heap.size := by omega
          clear e9 c9 s9
          refine hK.out _ _ (range_of_row D9.out) ?_
          clear hK K t9
          try simp only [List.getElem_toArray, List.getElem_cons_succ, List.getElem_cons_zero, Act.put, List.setIfInBounds_toArray, List.set_cons_zero, List.set_cons_succ]
          refine wpAnyH_step (i := 5) (by kernel_rfl) rfl fun K hK => ?_
          have HS5 : Hid (Src Try.prog 32 41 (.slice (some ⟨gB, 0, none⟩) 1 1) 1 (u8s R) w34) := Lib.hid (Src.ofSlice _ Try.underlying41 _ _ _ _ (by rw [u8s_length, hR]) (World.news_of_block CB.out) (u8s_one _))
          rw [if_pos (by rfl)]
          refine wp_append_n _ _ 41 41 28 rfl i28 z28 32 32 Try.underlying41 hi28 hz28 hsz hby hzs _ _ _ rfl HO.out _ rfl 1 _ HS5.out (by omega) (by omega) ?_
          intro ao6 c6 w6x hown6 ht6 _
          have PT := Lib.hid (PT.out.trans ht6 fun q hq e => by have := LO8.out _ e; omega : Pure w w6x); have D9 := Lib.hid (ht6.obj D9.out (fun e => by have := LO8.out _ e; omega)); have D17 := Lib.hid (ht6.obj D17.out (fun e => by have := LO8.out _ e; omega))
          have hrow6 : hrow S ++ u8s R = hrow (S ++ [R]) := by rw [hrow_app]; simp [hrow]
          rw [hrow6] at hown6
          have HO6 := Lib.hid hown6
          refine hK.out _ _ (range_of_row D9.out) ?_
          clear hK K hown6 ht6
          try simp only [List.getElem_toArray, List.getElem_cons_succ, List.getElem_cons_zero, Act.put, List.setIfInBounds_toArray, List.set_cons_zero, List.set_cons_succ]
          refine wpAnyH_take (i := 6) (v := .slice ao6 (sn + 1) c6) rfl (by kernel_rfl) (by kernel_rfl) (by kernel_rfl) (fun _ _ _ h => nomatch h.1) (Or.inl ⟨by rfl, fun w hSw => by go_simp⟩) (range_of_row D9.out) ?_
          simp only [List.getElem_toArray, List.getElem_cons_succ, List.getElem_cons_zero, Act.put, List.setIfInBounds_toArray, List.set_cons_zero, List.set_cons_succ]
          refine wpAnyH_done (by kernel_rfl) ?_ _
          exact ⟨rfl, gA, ao8, c8, gB, ao6, c6, rfl, PT.out, D9.out, D17.out, HO6.out⟩
        · rw [if_pos (by rfl)]
          refine wp_hash_n _ rfl R rfl hR ?_
          intro gB w24 e9 c9 t9 s9
          have CB := Lib.hid c9
          have PT := Lib.hid (PT.out.pure t9); have HP := Lib.hid (HP.out.pure t9); have D9 := Lib.hid (t9.obj D9.out (fun e => e)); have D17 := Lib.hid (t9.obj D17.out (fun e => e)); have HO := Lib.hid (t9.own HO.out (fun _ _ e => e))
          have NB : gB < w24.heap.size := by omega
          have NE : gA ≠ gB := by omega
          have NA : gA < w24.heap.size := by omega
          have LW : N0 ≤ w24.heap.size := by omega
          clear e9 c9 s9
          refine hK.out _ _ (range_of_row D9.out) (fun _ => ?_)
          clear hK K t9
          try simp only [List.getElem_toArray, List.getElem_cons_succ, List.getElem_cons_zero, Act.put, List.setIfInBounds_toArray, List.set_cons_zero, List.set_cons_succ]
          refine wpAnyH_step (i := 2) (by kernel_rfl) rfl fun K hK => ?_
          rw [if_pos (by rfl)]
          refine wp_append_0 _ _ 41 41 28 rfl i28 z28 32 32 Try.underlying41 hi28 hz28 hsz hby hzs _ rfl HO.out _ rfl sn _ (HSRC.out _ HP.out) (by omega) (by omega) ?_
          intro ao8 c8 w32 hown8 ht8 hb8
          have LO8 : Hid (∀ q, (Value.slice ao8 sn c8).ownBlock = some q → N0 ≤ q) := Lib.hid fun q hq => by
            rcases hb8.out with e | e
            · have : gA = q := Option.some.inj (e.symm.trans hq); omega
            · have := Option.some.inj (e.symm.trans hq); omega
          have PT := Lib.hid (PT.out.trans ht8 fun q hq e => by have : gA = q := Option.some.inj e; omega : Pure w w32); have D9 := Lib.hid (ht8.obj D9.out (fun e => by have : gA = g9 := Option.some.inj e; omega)); have D17 := Lib.hid (ht8.obj D17.out (fun e => by have : gA = g17 := Option.some.inj e; omega))
          have CB := Lib.hid (ht8.obj CB.out (fun e => by have : gA = gB := Option.some.inj e; omega))
          have NA : gA < w32.heap.size := by have := ht8.size; omega
          have LW : N0 ≤ w32.heap.size := by omega
          have HP := Lib.hid (HP.out.turn ht8 (fun hne q hq e => by have : gA = q := Option.some.inj e; have := HLT.out hne q hq; omega))
          have HO := Lib.hid hown8
          refine hK.out _ _ (range_of_row D9.out) ?_
          clear hK K hown8 ht8 hb8
          try simp only [List.getElem_toArray, List.getElem_cons_succ, List.getElem_cons_zero, Act.put, List.setIfInBounds_toArray, List.set_cons_zero, List.set_cons_succ]
          refine wpAnyH_step (i := 5) (by kernel_rfl) rfl fun K hK => ?_
          have HS5 : Hid (Src Try.prog 32 41 (.slice (some ⟨gB, 0, none⟩) 1 1) 1 (u8s R) w32) := Lib.hid (Src.ofSlice _ Try.underlying41 _ _ _ _ (by rw [u8s_length, hR]) (World.news_of_block CB.out) (u8s_one _))
          rw [if_pos (by rfl)]
          refine wp_append_n _ _ 41 41 28 rfl i28 z28 32 32 Try.underlying41 hi28 hz28 hsz hby hzs _ _ _ rfl HO.out _ rfl 1 _ HS5.out (by omega) (by omega) ?_
          intro ao6 c6 w6x hown6 ht6 _
          have PT := Lib.hid (PT.out.trans ht6 fun q hq e => by have := LO8.out _ e; omega : Pure w w6x); have D9 := Lib.hid (ht6.obj D9.out (fun e => by have := LO8.out _ e; omega)); have D17 := Lib.hid (ht6.obj D17.out (fun e => by have := LO8.out _ e; omega))
          have hrow6 : hrow S ++ u8s R = hrow (S ++ [R]) := by rw [hrow_app]; simp [hrow]
          rw [hrow6] at hown6
          have HO6 := Lib.hid hown6
          refine hK.out _ _ (range_of_row D9.out) ?_
          clear hK K hown6 ht6
          try simp only [List.getElem_toArray, List.getElem_cons_succ, List.getElem_cons_zero, Act.put, List.setIfInBounds_toArray, List.set_cons_zero, List.set_cons_succ]
          refine wpAnyH_take (i := 6) (v := .slice ao6 (sn + 1) c6) rfl (by kernel_rfl) (by kernel_rfl) (by kernel_rfl) (fun _ _ _ h => nomatch h.1) (Or.inl ⟨by rfl, fun w hSw => by go_simp⟩) (range_of_row D9.out) ?_
          simp only [List.getElem_toArray, List.getElem_cons_succ, List.getElem_cons_zero, Act.put, List.setIfInBounds_toArray, List.set_cons_zero, List.set_cons_succ]
          refine wpAnyH_done (by kernel_rfl) ?_ _
          exact ⟨rfl, gA, ao8, c8, gB, ao6, c6, rfl, PT.out, D9.out, D17.out, HO6.out⟩
      · rw [if_pos (by rfl)]
        refine wp_hash_n _ rfl R rfl hR ?_
        intro gB w14 e9 c9 t9 s9
        have CB := Lib.hid c9
        have PT := Lib.hid (PT.out.pure t9); have HP := Lib.hid (HP.out.pure t9); have D9 := Lib.hid (t9.obj D9.out (fun e => e)); have D17 := Lib.hid (t9.obj D17.out (fun e => e))
        have NB : gB < w14.heap.size := by omega
        have LW : N0 ≤ w14.heap.size := by omega
        clear e9 c9 s9
        refine hK.out _ _ (range_of_row D9.out) (fun _ => ?_)
        clear hK K t9
        try simp only [List.getElem_toArray, List.getElem_cons_succ, List.getElem_cons_zero, Act.put, List.setIfInBounds_toArray, List.set_cons_zero, List.set_cons_succ]
        refine wpAnyH_step (i := 0) (by kernel_rfl) rfl fun K hK => ?_
        rw [if_pos (by rfl)]
        refine wp_empty_n rfl ?_
        intro gA w20 e9 c9 t9 s9
        have HO : Hid (w20.ownsRow 0 28 32 (.slice (some ⟨gA, 0, none⟩) 0 0) 0 []) := Lib.hid ⟨rfl, .inr ⟨gA, 0, #[], rfl, Nat.zero_le _, c9, Nat.le_refl _, by decide, rfl, rfl⟩⟩
        have PT := Lib.hid (PT.out.pure t9); have HP := Lib.hid (HP.out.pure t9); have D9 := Lib.hid (t9.obj D9.out (fun e => e)); have D17 := Lib.hid (t9.obj D17.out (fun e => e)); have CB := Lib.hid (t9.obj CB.out (fun e => e))
        have LA : N0 ≤ gA := by omega
        have NA : gA < w20.heap.size := by omega
        have NE : gA ≠ gB := by omega
        have NB : gB < w20.heap.size := by omega
        have LW : N0 ≤ w20.heap.size := by omega
        clear e9 c9 s9
        refine hK.out _ _ (range_of_row D9.out) ?_
        clear hK K t9
        try simp only [List.getElem_toArray, List.getElem_cons_zero, Act.put, List.setIfInBounds_toArray, List.set_cons_zero, List.set_cons_succ]
        refine wpAnyH_step (i := 2) (by kernel_rfl) rfl fun K hK => ?_
        rw [if_pos (by rfl)]
        refine wp_append_0 _ _ 41 41 28 rfl i28 z28 32 32 Try.underlying41 hi28 hz28 hsz hby hzs _ rfl HO.out _ rfl sn _ (HSRC.out _ HP.out) (by omega) (by omega) ?_
        intro ao8 c8 w32 hown8 ht8 hb8
        have LO8 : Hid (∀ q, (Value.slice ao8 sn c8).ownBlock = some q → N0 ≤ q) := Lib.hid fun q hq => by
          rcases hb8.out with e | e
          · have : gA = q := Option.some.inj (e.symm.trans hq); omega
          · have := Option.some.inj (e.symm.trans hq); omega
        have PT := Lib.hid (PT.out.trans ht8 fun q hq e => by have : gA = q := Option.some.inj e; omega : Pure w w32); have D9 := Lib.hid (ht8.obj D9.out (fun e => by have : gA = g9 := Option.some.inj e; omega)); have D17 := Lib.hid (ht8.obj D17.out (fun e => by have : gA = g17 := Option.some.inj e; omega))
        have CB := Lib.hid (ht8.obj CB.out (fun e => by have : gA = gB := Option.some.inj e; omega))
        have NA : gA < w32.heap.size := by have := ht8.size; omega
        have LW : N0 ≤ w32.heap.size := by omega
        have HP := Lib.hid (HP.out.turn ht8 (fun hne q hq e => by have : gA = q := Option.some.inj e; have := HLT.out hne q hq; omega))
        have HO := Lib.hid hown8
        refine hK.out _ _ (range_of_row D9.out) ?_
        clear hK K hown8 ht8 hb8
        try simp only [List.getElem_toArray, List.getElem_cons_succ, List.getElem_cons_zero, Act.put, List.setIfInBounds_toArray, List.set_cons_zero, List.set_cons_succ]
        refine wpAnyH_step (i := 5) (by kernel_rfl) rfl fun K hK => ?_
        have HS5 : Hid (Src Try.prog 32 41 (.slice (some ⟨gB, 0, none⟩) 1 1) 1 (u8s R) w32) := Lib.hid (Src.ofSlice _ Try.underlying41 _ _ _ _ (by rw [u8s_length, hR]) (World.news_of_block CB.out) (u8s_one _))
        rw [if_pos (by rfl)]
        refine wp_append_n _ _ 41 41 28 rfl i28 z28 32 32 Try.underlying41 hi28 hz28 hsz hby hzs _ _ _ rfl HO.out _ rfl 1 _ HS5.out (by omega) (by omega) ?_
        intro ao6 c6 w6x hown6 ht6 _
        have PT := Lib.hid (PT.out.trans ht6 fun q hq e => by have := LO8.out _ e; omega : Pure w w6x); have D9 := Lib.hid (ht6.obj D9.out (fun e => by have := LO8.out _ e; omega)); have D17 := Lib.hid (ht6.obj D17.out (fun e => by have := LO8.out _ e; omega))
        have hrow6 : hrow S ++ u8s R = hrow (S ++ [R]) := by rw [hrow_app]; simp [hrow]
        rw [hrow6] at hown6
        have HO6 := Lib.hid hown6
        refine hK.out _ _ (range_of_row D9.out) ?_
        clear hK K hown6 ht6
        try simp only [List.getElem_toArray, List.getElem_cons_succ, List.getElem_cons_zero, Act.put, List.setIfInBounds_toArray, List.set_cons_zero, List.set_cons_succ]
        refine wpAnyH_take (i := 6) (v := .slice ao6 (sn + 1) c6) rfl (by kernel_rfl) (by kernel_rfl) (by kernel_rfl) (fun _ _ _ h => nomatch h.1) (Or.inl ⟨by rfl, fun w hSw => by go_simp⟩) (range_of_row D9.out) ?_
        simp only [List.getElem_toArray, List.getElem_cons_succ, List.getElem_cons_zero, Act.put, List.setIfInBounds_toArray, List.set_cons_zero, List.set_cons_succ]
        refine wpAnyH_done (by kernel_rfl) ?_ _
        exact ⟨rfl, gA, ao8, c8, gB, ao6, c6, rfl, PT.out, D9.out, D17.out, HO6.out⟩
    · rintro _ _ _ _ wia wic wi ⟨hpt, hD9, hD17, hown⟩
      have PT := Lib.hid hpt; have HLONG := Lib.hid hown; have D9 := Lib.hid hD9; have D17 := Lib.hid hD17
      clear hpt hown hD9 hD17
      have HP : Hid (Hashs wi (.slice wia (sn + 1) wic) (S ++ [R])) := Lib.hid (Hashs.own HLONG.out HS32.out)
      go_wp2_with (first | (refine wpList_load_row rfl 28 _ rfl g17 rfl _ (u8s O).toArray _ _ D17.out hu28 rfl (info28_a hO) ?_) | (refine wpList_load_row rfl 28 _ rfl g9 rfl _ (u8s R).toArray _ _ D9.out hu28 rfl (info28_a hR) ?_))
      refine (HC1.out _ _ HP.out).mono ?_
      rintro e wj ⟨rfl, tj⟩
      have PT := Lib.hid (PT.out.pure tj)
      clear tj
      go_wp2_with fail
      refine (Num9_any _ 0).mono ?_
      rintro e wn ⟨rfl, rfl⟩
      go_wp2_with fail
      refine (Num9_any _ 0).mono ?_
      rintro e wn ⟨rfl, rfl⟩
      go_wp2_with fail
      refine (Num9_any _ 1001).mono ?_
      rintro e wn ⟨rfl, rfl⟩
      go_wp2_with fail
      refine (Num9_any _ 0).mono ?_
      rintro e wn ⟨rfl, rfl⟩
      go_wp2_with fail
      refine (Num9_any _ 0).mono ?_
      rintro e wn ⟨rfl, rfl⟩
      go_wp2_with fail
      refine (Num9_any _ 1001).mono ?_
      rintro e wn ⟨rfl, rfl⟩
      go_wp2
      go_ret
      exact ⟨rfl, PT.out⟩

set_option maxRecDepth 100000 in
set_option maxHeartbeats 4000000 in
theorem ProofBack_true (w : World) (v : Value) (ls : List (List UInt8)) (i m : Int) (h : Texts w v ls) (hf : Fits ls) (hl : ls.length ≤ 8796093021952) :
    Calls Try.prog 9 #[v, .int .i64 i, .int .i64 m] w fun e w' => e = .returned (.bool true) ∧ Pure w w' := by
  obtain ⟨X, hXl, HZ⟩ := ex28
  obtain ⟨i28, z28, HI28, hz28, hsz, hby, hzs⟩ := parts28
  have hi28 := HI28.out
  have hu28 := Try.underlying28
  have HL := Lib.hid h
  obtain ⟨ao, c, rfl, hlc, ha⟩ := h
  obtain ⟨n, hn⟩ : ∃ n, n = ls.length := ⟨_, rfl⟩
  rw [← hn] at HL hlc hl ⊢
  by_cases h0 : n = 0
  · subst h0
    clear ha hn
    go_enter Try.func9, Try.ntmps9
    go_wp2_with fail
    refine (awake10 _).mono ?_
    rintro e w1 ⟨rfl, t1⟩
    go_wp2
    go_ret
    exact ⟨rfl, t1⟩
  · by_cases h60 : 60 < n
    · have q1 : ((n : Int) == 0) = false := by simp; omega
      have q2 : (n == 0) = false := by simp; omega
      have q3 : decide ((60 : Int) < n) = true := decide_eq_true (by omega)
      have q4 : decide (60 < n) = true := decide_eq_true h60
      clear ha hn
      go_enter Try.func9, Try.ntmps9
      go_wp2_with fail
      refine (awake10 _).mono ?_
      rintro e w1 ⟨rfl, t1⟩
      go_wp2
      go_ret
      exact ⟨rfl, t1⟩
    · have hne : ls ≠ [] := fun e => by rw [e] at hn; simp at hn; omega
      obtain ⟨b, o, rfl, hr⟩ := ha hne
      exact ProofBack_main w ls b o c n i m hn (by omega) (by omega) hlc hf hr
end Go.Proofs.Ytjbigghjbcjelaa
