/- Chapter 4, the program: signatures. -/
import Derived.Test.YtcfbmbhkdicpfaaOtsG
import Derived.Test.YtcfbmbhkdicpfaaOtsI
namespace Go.Proofs.Ytcfbmbhkdicpfaa
open Go.RowKit

set_option maxRecDepth 100000 in
set_option maxHeartbeats 4000000 in
theorem Sign_3 (w : World) (id seed msg : List UInt8) (q : Nat) (hid : id.length = 16) (hq : q ≤ 4294967295) (hsd : seed.length = 32) (hm : msg.length ≤ 65536) :
    Calls Try.prog 86 #[.int .i64 3, .string (bstr id), .int .i64 (q : Int), .string (bstr seed), .string (bstr msg)] w fun e w' => e = .returned (.tuple #[.string (bstr (otsSignV 3 4 67 4 (placeV id q) seed msg)), .int .i64 0]) ∧ Pure w w' := by
  have hko : ∀ W, Calls Try.prog 99 #[.int .i64 3] W fun e w' => e = .returned (.tuple #[.agg (kindC (4, 67, 4)).toArray, .bool true]) ∧ Pure W w' := fun W => kindOf_any W 3
  have hpo := fun W => placeOf_nat id q W hid hq
  have hhl : (placeV id q).length = 20 := by rw [placeV, List.length_append, beB_length, hid]
  generalize placeV id q = head at hpo hhl ⊢
  obtain ⟨pp, hpp⟩ : ∃ pp : Nat, pp = 67 := ⟨_, rfl⟩
  obtain ⟨B, hB⟩ : ∃ B : List UInt8, B = [255] := ⟨_, rfl⟩
  obtain ⟨CS, hCS⟩ : ∃ CS, CS = B ++ seed := ⟨_, rfl⟩
  have hCSl : CS.length = 33 := by rw [hCS, List.length_append, hB, hsd]; rfl
  have a1 : bstr B ++ bstr seed = bstr CS := by rw [hCS]; exact bstr_app _ _
  have hBl : B.length = 1 := by rw [hB]; rfl
  have zB : (bstr B).size = 1 := by rw [bstr_size, hBl]
  have zs : (bstr seed).size = 32 := by rw [bstr_size, hsd]
  have hcv := fun (W : World) (g : Nat) (hW : W.heap[g]? = some (.cells (u8s B).toArray 5 (0, 0))) => conv_block (P := Try.prog) W 65 5 9 5 (0, 0) Try.underlying65 Try.underlying5 Try.underlying9 g 1 B 1 hBl hW
  have hh1 := fun W => hash_any W head CS 65533 (by omega) (by omega)
  have hcV : otsCV head seed = shaV (head ++ beB 65533 2 ++ CS) := by rw [otsCV, hCS, hB]; rfl
  rw [← hcV] at hh1
  have hcl : (otsCV head seed).length = 32 := shaV_length _
  have hsv : otsSignV 3 4 pp 4 head seed msg = beB 3 4 ++ otsCV head seed ++ chainsV head (fun _ => 0) (fun i => (digitsV 4 pp 4 (otsQV head (otsCV head seed) msg)).getD i 0) (fun i => startV head i seed) pp := rfl
  generalize otsCV head seed = c at hh1 hcl hsv
  obtain ⟨CM, hCM⟩ : ∃ CM, CM = c ++ msg := ⟨_, rfl⟩
  have hCMl : CM.length = 32 + msg.length := by rw [hCM, List.length_append, hcl]
  have a2 : bstr c ++ bstr msg = bstr CM := by rw [hCM]; exact bstr_app _ _
  have zc : (bstr c).size = 32 := by rw [bstr_size, hcl]
  have zm := bstr_size msg
  have n1 : ¬ (9223372036854775807 < 32 + msg.length) := by omega
  have hh2 := fun W => hash_any W head CM 33153 (by omega) (by omega)
  have hQ : otsQV head c msg = shaV (head ++ beB 33153 2 ++ CM) := by rw [otsQV, hCM]
  rw [← hQ] at hh2
  have hQl : (otsQV head c msg).length = 32 := shaV_length _
  generalize otsQV head c msg = Q at hh2 hQl hsv
  have hdg := fun W => digits_4 W Q hQl
  rw [← hpp] at hdg ⊢
  have hdl := digitsV_length 4 pp 4 Q (by omega)
  have hdlt := digitsV_lt 4 pp 4 Q
  generalize digitsV 4 pp 4 Q = DL at hdg hdl hdlt hsv
  obtain ⟨NK, hNK⟩ : ∃ NK, NK = beB 3 4 := ⟨_, rfl⟩
  have hNKl : NK.length = 4 := by rw [hNK]; exact beB_length _ _
  obtain ⟨O0, hO0⟩ : ∃ O0, O0 = NK ++ c := ⟨_, rfl⟩
  have hO0l : O0.length = 36 := by rw [hO0, List.length_append, hNKl, hcl]
  have a3 : bstr NK ++ bstr c = bstr O0 := by rw [hO0]; exact bstr_app _ _
  have zn : (bstr NK).size = 4 := by rw [bstr_size, hNKl]
  have hnum : ∀ W, Calls Try.prog 131 #[.int .i64 3, .int .i64 4] W fun e w' => e = .returned (.string (bstr NK)) ∧ Pure W w' := fun W => by
    have := num_any ((3 : Nat) : Int) 4 W (by omega) (by omega)
    rw [beI_nat, ← hNK] at this
    exact this
  rw [← hNK, ← hO0] at hsv
  rw [hsv]
  have HKO := Lib.hid hko; have HPO := Lib.hid hpo; have HH1 := Lib.hid hh1; have HH2 := Lib.hid hh2; have HDG := Lib.hid hdg; have HNUM := Lib.hid hnum; have HCV := Lib.hid hcv; have HB := Lib.hid hB; have HDL := Lib.hid (And.intro hdl hdlt); have HPP := Lib.hid hpp; have HOL := Lib.hid hO0l
  have hp1 : pp ≤ 67 := by omega
  clear hko hpo hh1 hh2 hdg hnum hcv hB hCS hCSl hcV hsv hCM hCMl hQ hQl hdl hdlt hNK hNKl hO0 hpp hBl hcl hO0l
  go_enter Try.func86, Try.ntmps86
  go_wp2_with fail
  refine (HKO.out _).mono ?_
  rintro e w2 ⟨rfl, t2⟩
  have PT := Lib.hid t2
  clear t2
  go_wp2_with (refine wpList_allocZ rfl 157 rfl (kindC (0, 0, 0)) zeroK ?_)
  intro g12 w3 e3 c3 t3 s3
  have l12 : w.heap.size ≤ g12 := by have := PT.out.size; omega
  clear e3
  go_wp2_with (refine wpList_store_blk rfl 157 _ _ rfl g12 _ (kindC (4, 67, 4)) _ rfl rfl c3 rfl (by rw [infoK]; rfl) (by simp [Value.oneCell']) ?_)
  intro w4 c4 t4 s4
  have D12 := Lib.hid c4; have PT := Lib.hid ((PT.out.pure t3).trans t4 fun x hx e => by omega : Pure w w4)
  clear c3 t3 s3 c4 t4 s4
  go_wp2_with fail
  refine (HPO.out _).mono ?_
  rintro e w5 ⟨rfl, t5⟩
  have D12 := Lib.hid (t5.obj D12.out (fun e => e)); have PT := Lib.hid (PT.out.pure t5)
  clear t5 HKO HPO
  go_wp2_with (refine wpList_buildByte rfl _ rfl 255 rfl ?_)
  intro g6 w6 e6 c6 t6
  clear e6
  rw [← HB.out] at c6
  have hcv := HCV.out _ _ c6
  have D12 := Lib.hid (t6.obj D12.out (fun e => e)); have PT := Lib.hid (PT.out.pure t6)
  clear c6 t6 HCV HB
  go_wp2_with fail
  refine (HH1.out _).mono ?_
  rintro e w7 ⟨rfl, t7⟩
  have D12 := Lib.hid (t7.obj D12.out (fun e => e)); have PT := Lib.hid (PT.out.pure t7)
  clear t7 hcv HH1
  go_wp2_with fail
  refine (HNUM.out _).mono ?_
  rintro e w8 ⟨rfl, t8⟩
  have D12 := Lib.hid (t8.obj D12.out (fun e => e)); have PT := Lib.hid (PT.out.pure t8)
  clear t8 HNUM
  go_wp2_with fail
  refine wp_region_held_drew (S := fun w' => w'.rangeAt g12 0 (kindC (4, 67, 4))) (by kernel_rfl) (show w8.drew.rangeAt g12 0 (kindC (4, 67, 4)) from range_of_row D12.out) (fun _ => ?_)
  have PT := Lib.hid PT.out.drew
  have D12 := Lib.hid (show w8.drew.heap[g12]? = _ from D12.out)
  generalize w8.drew = w9 at *
  refine wpAnyH_take (i := 0) (v := .agg (kindC (4, 67, 4)).toArray) rfl (by kernel_rfl) (by kernel_rfl) (by kernel_rfl) (fun _ _ _ h => h) (yieldsIf_load_mid (by rfl) 157 _ rfl g12 0 rfl (kindC (4, 67, 4)) _ (fun w h => h) Try.underlying157 rfl (by rw [infoK]; rfl)) (range_of_row D12.out) ?_
  simp only [AP]
  refine wpAnyH_take (i := 1) (v := .string (bstr head)) rfl (by kernel_rfl) (by kernel_rfl) (by kernel_rfl) (fun _ _ _ h => h) (Or.inl ⟨by rfl, fun w hSw => by go_simp⟩) (range_of_row D12.out) ?_
  simp only [AP]
  refine wpAnyH_take (i := 2) (v := .string (bstr c)) rfl (by kernel_rfl) (by kernel_rfl) (by kernel_rfl) (fun _ _ _ h => h) (Or.inl ⟨by rfl, fun w hSw => by go_simp⟩) (range_of_row D12.out) ?_
  simp only [AP]
  refine wpAnyH_take (i := 3) (v := .string (bstr msg)) rfl (by kernel_rfl) (by kernel_rfl) (by kernel_rfl) (fun _ _ _ h => h) (Or.inl ⟨by rfl, fun w hSw => by go_simp⟩) (range_of_row D12.out) ?_
  simp only [AP]
  refine wpAnyH_take (i := 4) (v := .string (bstr CM)) rfl (by kernel_rfl) (by kernel_rfl) (by kernel_rfl) (fun _ _ _ h => h) (Or.inl ⟨by rfl, fun w hSw => by go_simp⟩) (range_of_row D12.out) ?_
  simp only [AP]
  refine wpAnyH_take (i := 8) (v := .int .i64 0) rfl (by kernel_rfl) (by kernel_rfl) (by kernel_rfl) (fun _ _ _ h => h) (Or.inl ⟨by rfl, fun w hSw => by go_simp⟩) (range_of_row D12.out) ?_
  simp only [AP]
  refine wpAnyH_step (i := 5) (by kernel_rfl) rfl fun K hK => ?_
  go_simp
  refine (HH2.out _).mono ?_
  rintro e wa ⟨rfl, ta⟩
  have D12 := Lib.hid (ta.obj D12.out (fun e => e)); have PT := Lib.hid (PT.out.pure ta)
  refine hK.out _ _ (range_of_row D12.out) ?_
  clear hK K ta HH2
  try simp only [AP]
  refine wpAnyH_step (i := 6) (by kernel_rfl) rfl fun K hK => ?_
  go_simp
  refine (HDG.out _).mono ?_
  rintro e wb ⟨r, rfl, hr, tb⟩
  obtain ⟨ra, rc, rfl, _⟩ := ownsRow_shape hr
  obtain ⟨gd, rfl⟩ : ∃ gd, ra = some ⟨gd, 0, none⟩ := by
    rcases hr.2 with ⟨_, h0⟩ | ⟨g, cap, cur, e, _⟩
    · have := HPP.out; omega
    · simp only [Value.slice.injEq] at e
      exact ⟨g, e.1⟩
  have hrg : wb.rangeAt gd 0 (intsN DL) := fun j u hj => by
    have := hr.cells (g := gd) rfl j u hj
    rwa [Addr.add_mid] at this
  have D12 := Lib.hid (tb.obj D12.out (fun e => e)); have PT := Lib.hid (PT.out.pure tb); have HR := Lib.hid hrg
  refine hK.out _ _ (range_of_row D12.out) ?_
  clear hK K tb HDG hr hrg
  try simp only [AP]
  refine wpAnyH_take (i := 7) (v := .int .i64 (pp : Int)) rfl (by kernel_rfl) (by kernel_rfl) (by kernel_rfl) (fun _ _ _ h => h) (Or.inl ⟨by rfl, fun w hSw => by go_simp⟩) (range_of_row D12.out) ?_
  simp only [AP]
  refine wpAnyH_done (by kernel_rfl) ?_ _
  clear D12
  go_wp2
  go_loopw [17, 18, 19, 65] (fun out _ _ i wr => ∃ k : Nat, k ≤ pp ∧ out = .string (bstr (O0 ++ chainsV head (fun _ => 0) (fun i => DL.getD i 0) (fun i => startV head i seed) k)) ∧ i = .int .i64 (k : Int) ∧ Hid (wr.rangeAt gd 0 (intsN DL)) ∧ Hid (Pure w wr)) (fun _ _ _ i _ => pp - (intOf i).toNat)
  case atStart => exact ⟨0, by omega, by simp [chainsV], rfl, HR, PT⟩
  case round =>
    obtain ⟨k, hk, rfl, rfl, HRG, HP⟩ := hrel
    by_cases hlt : k < pp
    · have q1 : (k : Int) < pp := by omega
      have i1 : IntKind.i64.wrap ((k : Int) + 1) = ((k + 1 : Nat) : Int) := by rw [IntWalk.i64_in _ (by omega)]; omega
      have hkl := chainsV_length head (fun _ => 0) (fun i => DL.getD i 0) (fun i => startV head i seed) k (fun i _ => startV_length _ _ _)
      have hkD : k < DL.length := by have := HDL.out.1; omega
      have hcell : wr.cell? ⟨gd, 0 + k, none⟩ = some (.int .i64 ((DL.getD k 0 : Nat) : Int)) := HRG.out k _ (by simp [intsN, List.getD, hkD])
      rw [Nat.zero_add] at hcell
      have hdk : DL.getD k 0 < 16 := by
        have := HDL.out.2 (DL.getD k 0) (by rw [List.getD_eq_getElem?_getD, List.getElem?_eq_getElem hkD]; simp)
        omega
      have hnext : O0 ++ chainsV head (fun _ => 0) (fun i => DL.getD i 0) (fun i => startV head i seed) (k + 1) = (O0 ++ chainsV head (fun _ => 0) (fun i => DL.getD i 0) (fun i => startV head i seed) k) ++ stepsV head k 0 (DL.getD k 0) (startV head k seed) := by rw [List.append_assoc]; rfl
      have hwk := fun W => walk_any W head k 0 (DL.getD k 0) (startV head k seed) (by omega) (by omega) (startV_length _ _ _)
      have hst := fun W => start_any W head seed k (by omega) (by omega)
      have hyl : (stepsV head k 0 (DL.getD k 0) (startV head k seed)).length = 32 := stepsV_length _ _ _ _ _ (startV_length _ _ _)
      generalize DL.getD k 0 = dk at hcell hdk hnext hwk hyl
      simp only [Nat.zero_add] at hwk
      obtain ⟨A, hA⟩ : ∃ A, A = O0 ++ chainsV head (fun _ => 0) (fun i => DL.getD i 0) (fun i => startV head i seed) k := ⟨_, rfl⟩
      have hAl : A.length = 36 + 32 * k := by rw [hA, List.length_append, hkl, HOL.out]
      obtain ⟨y, hy⟩ : ∃ y, y = stepsV head k 0 dk (startV head k seed) := ⟨_, rfl⟩
      obtain ⟨A2, hA2⟩ : ∃ A2, A2 = A ++ y := ⟨_, rfl⟩
      rw [← hA] at hnext ⊢
      rw [← hy] at hnext hyl hwk
      rw [← hA2] at hnext
      have a5 : bstr A ++ bstr y = bstr A2 := by rw [hA2]; exact bstr_app _ _
      have z1 : (bstr A).size = 36 + 32 * k := by rw [bstr_size, hAl]
      have z2 : (bstr y).size = 32 := by rw [bstr_size, hyl]
      have n2 : ¬ (9223372036854775807 < 36 + 32 * k + 32) := by omega
      generalize startV head k seed = x at hwk hst
      have HW := Lib.hid hwk; have HST := Lib.hid hst; have HNX := Lib.hid hnext
      clear hwk hst hnext hyl hkl hA hy hA2 hAl hkD
      go_wp2_with fail
      refine (HST.out _).mono ?_
      rintro e w6 ⟨rfl, t6⟩
      go_wp2_with fail
      refine (HW.out _).mono ?_
      rintro e w7 ⟨rfl, t7⟩
      have HP7 := Lib.hid ((HP.out.pure t6).pure t7); have HR7 := Lib.hid (t7.range (t6.range HRG.out (fun e => e)) (fun e => e))
      clear t6 t7 HP HRG hcell
      go_wp2
      exact ⟨⟨k + 1, by omega, by rw [HNX.out], by first | rfl | trivial, HR7, HP7⟩, by simp [intOf]; omega⟩
    · have q1 : ¬ ((k : Int) < pp) := by omega
      obtain rfl : k = pp := by omega
      go_wp2
      go_ret2
      exact ⟨rfl, HP.out⟩

set_option maxRecDepth 100000 in
set_option maxHeartbeats 4000000 in
theorem Sign_4 (w : World) (id seed msg : List UInt8) (q : Nat) (hid : id.length = 16) (hq : q ≤ 4294967295) (hsd : seed.length = 32) (hm : msg.length ≤ 65536) :
    Calls Try.prog 86 #[.int .i64 4, .string (bstr id), .int .i64 (q : Int), .string (bstr seed), .string (bstr msg)] w fun e w' => e = .returned (.tuple #[.string (bstr (otsSignV 4 8 34 0 (placeV id q) seed msg)), .int .i64 0]) ∧ Pure w w' := by
  have hko : ∀ W, Calls Try.prog 99 #[.int .i64 4] W fun e w' => e = .returned (.tuple #[.agg (kindC (8, 34, 0)).toArray, .bool true]) ∧ Pure W w' := fun W => kindOf_any W 4
  have hpo := fun W => placeOf_nat id q W hid hq
  have hhl : (placeV id q).length = 20 := by rw [placeV, List.length_append, beB_length, hid]
  generalize placeV id q = head at hpo hhl ⊢
  obtain ⟨pp, hpp⟩ : ∃ pp : Nat, pp = 34 := ⟨_, rfl⟩
  obtain ⟨B, hB⟩ : ∃ B : List UInt8, B = [255] := ⟨_, rfl⟩
  obtain ⟨CS, hCS⟩ : ∃ CS, CS = B ++ seed := ⟨_, rfl⟩
  have hCSl : CS.length = 33 := by rw [hCS, List.length_append, hB, hsd]; rfl
  have a1 : bstr B ++ bstr seed = bstr CS := by rw [hCS]; exact bstr_app _ _
  have hBl : B.length = 1 := by rw [hB]; rfl
  have zB : (bstr B).size = 1 := by rw [bstr_size, hBl]
  have zs : (bstr seed).size = 32 := by rw [bstr_size, hsd]
  have hcv := fun (W : World) (g : Nat) (hW : W.heap[g]? = some (.cells (u8s B).toArray 5 (0, 0))) => conv_block (P := Try.prog) W 65 5 9 5 (0, 0) Try.underlying65 Try.underlying5 Try.underlying9 g 1 B 1 hBl hW
  have hh1 := fun W => hash_any W head CS 65533 (by omega) (by omega)
  have hcV : otsCV head seed = shaV (head ++ beB 65533 2 ++ CS) := by rw [otsCV, hCS, hB]; rfl
  rw [← hcV] at hh1
  have hcl : (otsCV head seed).length = 32 := shaV_length _
  have hsv : otsSignV 4 8 pp 0 head seed msg = beB 4 4 ++ otsCV head seed ++ chainsV head (fun _ => 0) (fun i => (digitsV 8 pp 0 (otsQV head (otsCV head seed) msg)).getD i 0) (fun i => startV head i seed) pp := rfl
  generalize otsCV head seed = c at hh1 hcl hsv
  obtain ⟨CM, hCM⟩ : ∃ CM, CM = c ++ msg := ⟨_, rfl⟩
  have hCMl : CM.length = 32 + msg.length := by rw [hCM, List.length_append, hcl]
  have a2 : bstr c ++ bstr msg = bstr CM := by rw [hCM]; exact bstr_app _ _
  have zc : (bstr c).size = 32 := by rw [bstr_size, hcl]
  have zm := bstr_size msg
  have n1 : ¬ (9223372036854775807 < 32 + msg.length) := by omega
  have hh2 := fun W => hash_any W head CM 33153 (by omega) (by omega)
  have hQ : otsQV head c msg = shaV (head ++ beB 33153 2 ++ CM) := by rw [otsQV, hCM]
  rw [← hQ] at hh2
  have hQl : (otsQV head c msg).length = 32 := shaV_length _
  generalize otsQV head c msg = Q at hh2 hQl hsv
  have hdg := fun W => digits_8 W Q hQl
  rw [← hpp] at hdg ⊢
  have hdl := digitsV_length 8 pp 0 Q (by omega)
  have hdlt := digitsV_lt 8 pp 0 Q
  generalize digitsV 8 pp 0 Q = DL at hdg hdl hdlt hsv
  obtain ⟨NK, hNK⟩ : ∃ NK, NK = beB 4 4 := ⟨_, rfl⟩
  have hNKl : NK.length = 4 := by rw [hNK]; exact beB_length _ _
  obtain ⟨O0, hO0⟩ : ∃ O0, O0 = NK ++ c := ⟨_, rfl⟩
  have hO0l : O0.length = 36 := by rw [hO0, List.length_append, hNKl, hcl]
  have a3 : bstr NK ++ bstr c = bstr O0 := by rw [hO0]; exact bstr_app _ _
  have zn : (bstr NK).size = 4 := by rw [bstr_size, hNKl]
  have hnum : ∀ W, Calls Try.prog 131 #[.int .i64 4, .int .i64 4] W fun e w' => e = .returned (.string (bstr NK)) ∧ Pure W w' := fun W => by
    have := num_any ((4 : Nat) : Int) 4 W (by omega) (by omega)
    rw [beI_nat, ← hNK] at this
    exact this
  rw [← hNK, ← hO0] at hsv
  rw [hsv]
  have HKO := Lib.hid hko; have HPO := Lib.hid hpo; have HH1 := Lib.hid hh1; have HH2 := Lib.hid hh2; have HDG := Lib.hid hdg; have HNUM := Lib.hid hnum; have HCV := Lib.hid hcv; have HB := Lib.hid hB; have HDL := Lib.hid (And.intro hdl hdlt); have HPP := Lib.hid hpp; have HOL := Lib.hid hO0l
  have hp1 : pp ≤ 67 := by omega
  clear hko hpo hh1 hh2 hdg hnum hcv hB hCS hCSl hcV hsv hCM hCMl hQ hQl hdl hdlt hNK hNKl hO0 hpp hBl hcl hO0l
  go_enter Try.func86, Try.ntmps86
  go_wp2_with fail
  refine (HKO.out _).mono ?_
  rintro e w2 ⟨rfl, t2⟩
  have PT := Lib.hid t2
  clear t2
  go_wp2_with (refine wpList_allocZ rfl 157 rfl (kindC (0, 0, 0)) zeroK ?_)
  intro g12 w3 e3 c3 t3 s3
  have l12 : w.heap.size ≤ g12 := by have := PT.out.size; omega
  clear e3
  go_wp2_with (refine wpList_store_blk rfl 157 _ _ rfl g12 _ (kindC (8, 34, 0)) _ rfl rfl c3 rfl (by rw [infoK]; rfl) (by simp [Value.oneCell']) ?_)
  intro w4 c4 t4 s4
  have D12 := Lib.hid c4; have PT := Lib.hid ((PT.out.pure t3).trans t4 fun x hx e => by omega : Pure w w4)
  clear c3 t3 s3 c4 t4 s4
  go_wp2_with fail
  refine (HPO.out _).mono ?_
  rintro e w5 ⟨rfl, t5⟩
  have D12 := Lib.hid (t5.obj D12.out (fun e => e)); have PT := Lib.hid (PT.out.pure t5)
  clear t5 HKO HPO
  go_wp2_with (refine wpList_buildByte rfl _ rfl 255 rfl ?_)
  intro g6 w6 e6 c6 t6
  clear e6
  rw [← HB.out] at c6
  have hcv := HCV.out _ _ c6
  have D12 := Lib.hid (t6.obj D12.out (fun e => e)); have PT := Lib.hid (PT.out.pure t6)
  clear c6 t6 HCV HB
  go_wp2_with fail
  refine (HH1.out _).mono ?_
  rintro e w7 ⟨rfl, t7⟩
  have D12 := Lib.hid (t7.obj D12.out (fun e => e)); have PT := Lib.hid (PT.out.pure t7)
  clear t7 hcv HH1
  go_wp2_with fail
  refine (HNUM.out _).mono ?_
  rintro e w8 ⟨rfl, t8⟩
  have D12 := Lib.hid (t8.obj D12.out (fun e => e)); have PT := Lib.hid (PT.out.pure t8)
  clear t8 HNUM
  go_wp2_with fail
  refine wp_region_held_drew (S := fun w' => w'.rangeAt g12 0 (kindC (8, 34, 0))) (by kernel_rfl) (show w8.drew.rangeAt g12 0 (kindC (8, 34, 0)) from range_of_row D12.out) (fun _ => ?_)
  have PT := Lib.hid PT.out.drew
  have D12 := Lib.hid (show w8.drew.heap[g12]? = _ from D12.out)
  generalize w8.drew = w9 at *
  refine wpAnyH_take (i := 0) (v := .agg (kindC (8, 34, 0)).toArray) rfl (by kernel_rfl) (by kernel_rfl) (by kernel_rfl) (fun _ _ _ h => h) (yieldsIf_load_mid (by rfl) 157 _ rfl g12 0 rfl (kindC (8, 34, 0)) _ (fun w h => h) Try.underlying157 rfl (by rw [infoK]; rfl)) (range_of_row D12.out) ?_
  simp only [AP]
  refine wpAnyH_take (i := 1) (v := .string (bstr head)) rfl (by kernel_rfl) (by kernel_rfl) (by kernel_rfl) (fun _ _ _ h => h) (Or.inl ⟨by rfl, fun w hSw => by go_simp⟩) (range_of_row D12.out) ?_
  simp only [AP]
  refine wpAnyH_take (i := 2) (v := .string (bstr c)) rfl (by kernel_rfl) (by kernel_rfl) (by kernel_rfl) (fun _ _ _ h => h) (Or.inl ⟨by rfl, fun w hSw => by go_simp⟩) (range_of_row D12.out) ?_
  simp only [AP]
  refine wpAnyH_take (i := 3) (v := .string (bstr msg)) rfl (by kernel_rfl) (by kernel_rfl) (by kernel_rfl) (fun _ _ _ h => h) (Or.inl ⟨by rfl, fun w hSw => by go_simp⟩) (range_of_row D12.out) ?_
  simp only [AP]
  refine wpAnyH_take (i := 4) (v := .string (bstr CM)) rfl (by kernel_rfl) (by kernel_rfl) (by kernel_rfl) (fun _ _ _ h => h) (Or.inl ⟨by rfl, fun w hSw => by go_simp⟩) (range_of_row D12.out) ?_
  simp only [AP]
  refine wpAnyH_take (i := 8) (v := .int .i64 0) rfl (by kernel_rfl) (by kernel_rfl) (by kernel_rfl) (fun _ _ _ h => h) (Or.inl ⟨by rfl, fun w hSw => by go_simp⟩) (range_of_row D12.out) ?_
  simp only [AP]
  refine wpAnyH_step (i := 5) (by kernel_rfl) rfl fun K hK => ?_
  go_simp
  refine (HH2.out _).mono ?_
  rintro e wa ⟨rfl, ta⟩
  have D12 := Lib.hid (ta.obj D12.out (fun e => e)); have PT := Lib.hid (PT.out.pure ta)
  refine hK.out _ _ (range_of_row D12.out) ?_
  clear hK K ta HH2
  try simp only [AP]
  refine wpAnyH_step (i := 6) (by kernel_rfl) rfl fun K hK => ?_
  go_simp
  refine (HDG.out _).mono ?_
  rintro e wb ⟨r, rfl, hr, tb⟩
  obtain ⟨ra, rc, rfl, _⟩ := ownsRow_shape hr
  obtain ⟨gd, rfl⟩ : ∃ gd, ra = some ⟨gd, 0, none⟩ := by
    rcases hr.2 with ⟨_, h0⟩ | ⟨g, cap, cur, e, _⟩
    · have := HPP.out; omega
    · simp only [Value.slice.injEq] at e
      exact ⟨g, e.1⟩
  have hrg : wb.rangeAt gd 0 (intsN DL) := fun j u hj => by
    have := hr.cells (g := gd) rfl j u hj
    rwa [Addr.add_mid] at this
  have D12 := Lib.hid (tb.obj D12.out (fun e => e)); have PT := Lib.hid (PT.out.pure tb); have HR := Lib.hid hrg
  refine hK.out _ _ (range_of_row D12.out) ?_
  clear hK K tb HDG hr hrg
  try simp only [AP]
  refine wpAnyH_take (i := 7) (v := .int .i64 (pp : Int)) rfl (by kernel_rfl) (by kernel_rfl) (by kernel_rfl) (fun _ _ _ h => h) (Or.inl ⟨by rfl, fun w hSw => by go_simp⟩) (range_of_row D12.out) ?_
  simp only [AP]
  refine wpAnyH_done (by kernel_rfl) ?_ _
  clear D12
  go_wp2
  go_loopw [17, 18, 19, 65] (fun out _ _ i wr => ∃ k : Nat, k ≤ pp ∧ out = .string (bstr (O0 ++ chainsV head (fun _ => 0) (fun i => DL.getD i 0) (fun i => startV head i seed) k)) ∧ i = .int .i64 (k : Int) ∧ Hid (wr.rangeAt gd 0 (intsN DL)) ∧ Hid (Pure w wr)) (fun _ _ _ i _ => pp - (intOf i).toNat)
  case atStart => exact ⟨0, by omega, by simp [chainsV], rfl, HR, PT⟩
  case round =>
    obtain ⟨k, hk, rfl, rfl, HRG, HP⟩ := hrel
    by_cases hlt : k < pp
    · have q1 : (k : Int) < pp := by omega
      have i1 : IntKind.i64.wrap ((k : Int) + 1) = ((k + 1 : Nat) : Int) := by rw [IntWalk.i64_in _ (by omega)]; omega
      have hkl := chainsV_length head (fun _ => 0) (fun i => DL.getD i 0) (fun i => startV head i seed) k (fun i _ => startV_length _ _ _)
      have hkD : k < DL.length := by have := HDL.out.1; omega
      have hcell : wr.cell? ⟨gd, 0 + k, none⟩ = some (.int .i64 ((DL.getD k 0 : Nat) : Int)) := HRG.out k _ (by simp [intsN, List.getD, hkD])
      rw [Nat.zero_add] at hcell
      have hdk : DL.getD k 0 < 256 := by
        have := HDL.out.2 (DL.getD k 0) (by rw [List.getD_eq_getElem?_getD, List.getElem?_eq_getElem hkD]; simp)
        omega
      have hnext : O0 ++ chainsV head (fun _ => 0) (fun i => DL.getD i 0) (fun i => startV head i seed) (k + 1) = (O0 ++ chainsV head (fun _ => 0) (fun i => DL.getD i 0) (fun i => startV head i seed) k) ++ stepsV head k 0 (DL.getD k 0) (startV head k seed) := by rw [List.append_assoc]; rfl
      have hwk := fun W => walk_any W head k 0 (DL.getD k 0) (startV head k seed) (by omega) (by omega) (startV_length _ _ _)
      have hst := fun W => start_any W head seed k (by omega) (by omega)
      have hyl : (stepsV head k 0 (DL.getD k 0) (startV head k seed)).length = 32 := stepsV_length _ _ _ _ _ (startV_length _ _ _)
      generalize DL.getD k 0 = dk at hcell hdk hnext hwk hyl
      simp only [Nat.zero_add] at hwk
      obtain ⟨A, hA⟩ : ∃ A, A = O0 ++ chainsV head (fun _ => 0) (fun i => DL.getD i 0) (fun i => startV head i seed) k := ⟨_, rfl⟩
      have hAl : A.length = 36 + 32 * k := by rw [hA, List.length_append, hkl, HOL.out]
      obtain ⟨y, hy⟩ : ∃ y, y = stepsV head k 0 dk (startV head k seed) := ⟨_, rfl⟩
      obtain ⟨A2, hA2⟩ : ∃ A2, A2 = A ++ y := ⟨_, rfl⟩
      rw [← hA] at hnext ⊢
      rw [← hy] at hnext hyl hwk
      rw [← hA2] at hnext
      have a5 : bstr A ++ bstr y = bstr A2 := by rw [hA2]; exact bstr_app _ _
      have z1 : (bstr A).size = 36 + 32 * k := by rw [bstr_size, hAl]
      have z2 : (bstr y).size = 32 := by rw [bstr_size, hyl]
      have n2 : ¬ (9223372036854775807 < 36 + 32 * k + 32) := by omega
      generalize startV head k seed = x at hwk hst
      have HW := Lib.hid hwk; have HST := Lib.hid hst; have HNX := Lib.hid hnext
      clear hwk hst hnext hyl hkl hA hy hA2 hAl hkD
      go_wp2_with fail
      refine (HST.out _).mono ?_
      rintro e w6 ⟨rfl, t6⟩
      go_wp2_with fail
      refine (HW.out _).mono ?_
      rintro e w7 ⟨rfl, t7⟩
      have HP7 := Lib.hid ((HP.out.pure t6).pure t7); have HR7 := Lib.hid (t7.range (t6.range HRG.out (fun e => e)) (fun e => e))
      clear t6 t7 HP HRG hcell
      go_wp2
      exact ⟨⟨k + 1, by omega, by rw [HNX.out], by first | rfl | trivial, HR7, HP7⟩, by simp [intOf]; omega⟩
    · have q1 : ¬ ((k : Int) < pp) := by omega
      obtain rfl : k = pp := by omega
      go_wp2
      go_ret2
      exact ⟨rfl, HP.out⟩
end Go.Proofs.Ytcfbmbhkdicpfaa
