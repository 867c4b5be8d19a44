/- Chapter 4, the program: public keys. -/
import Derived.Test.YtcfbmbhkdicpfaaSeq
import Derived.Test.YtcfbmbhkdicpfaaOtsF
import Derived.Test.YtcfbmbhkdicpfaaOtsD
namespace Go.Proofs.Ytcfbmbhkdicpfaa
open Go.RowKit

theorem placeB_true {id : List UInt8} {q : Nat} (h : id.length = 16) (hq : q ≤ 4294967295) : placeB id (q : Int) = true := by
  unfold placeB
  exact decide_eq_true ⟨h, by omega, by omega⟩
theorem placeOf_nat (id : List UInt8) (q : Nat) (w : World) (h : id.length = 16) (hq : q ≤ 4294967295) :
    Calls Try.prog 98 #[.string (bstr id), .int .i64 (q : Int)] w fun e w' => e = .returned (.tuple #[.string (bstr (placeV id q)), .bool true]) ∧ Pure w w' := by
  have := placeOf_any id (q : Int) w (by omega)
  rw [placeB_true h hq, beI_nat] at this
  exact this

set_option maxRecDepth 100000 in
set_option maxHeartbeats 4000000 in
theorem Public_3 (w : World) (id seed : List UInt8) (q : Nat) (hid : id.length = 16) (hq : q ≤ 4294967295) (hsd : seed.length = 32) :
    Calls Try.prog 123 #[.int .i64 3, .string (bstr id), .int .i64 (q : Int), .string (bstr seed)] w fun e w' => e = .returned (.tuple #[hv (otsPubV 4 67 (placeV id q) seed), .int .i64 0]) ∧ Pure w w' := by
  obtain ⟨X, hXl, HZ⟩ := ex28
  have hko : ∀ W, Calls Try.prog 99 #[.int .i64 3] W fun e w' => e = .returned (.tuple #[.agg (kindC (4, 67, 4)).toArray, .bool true]) ∧ Pure W w' := fun W => kindOf_any W 3
  have hpo := fun W => placeOf_nat id q W hid hq
  have hhl : (placeV id q).length = 20 := by rw [placeV, List.length_append, beB_length, hid]
  generalize placeV id q = head at hpo hhl ⊢
  obtain ⟨pp, hpp⟩ : ∃ pp : Nat, pp = 67 := ⟨_, rfl⟩
  obtain ⟨ALL, hALL⟩ : ∃ ALL, ALL = chainsV head (fun _ => 0) (fun _ => 2 ^ 4 - 1) (fun i => startV head i seed) pp := ⟨_, rfl⟩
  have hAl : ALL.length = 32 * pp := by rw [hALL, chainsV_length _ _ _ _ _ (fun i _ => startV_length _ _ _)]
  rw [← hpp]
  have hV : otsPubV 4 pp head seed = shaV (head ++ beB 32896 2 ++ ALL) := by rw [hALL, otsPubV]
  have hha := fun W => hash_any W head ALL 32896 (by omega) (by omega)
  rw [hV]
  rw [← hV] at hha
  have hPl : (otsPubV 4 pp head seed).length = 32 := shaV_length _
  rw [← hV]
  generalize otsPubV 4 pp head seed = PUB at hha hPl ⊢
  have HKO := Lib.hid hko; have HPO := Lib.hid hpo; have HHA := Lib.hid hha; have HALL := Lib.hid hALL
  have zs := bstr_size seed
  rw [hsd] at zs
  have zp : (bstr PUB).size = 32 := by rw [bstr_size, hPl]
  have HPP := Lib.hid hpp
  clear hko hpo hha hALL hV hpp
  go_enter Try.func123, Try.ntmps123
  go_wp2_with (refine wpList_allocZ rfl 62 rfl X HZ.out ?_)
  intro g8 w1 e1 c1 t1 s1
  have l8 : w.heap.size ≤ g8 := by omega
  clear e1
  go_wp2_with fail
  refine (HKO.out _).mono ?_
  rintro e w2 ⟨rfl, t2⟩
  have D8 := Lib.hid (t2.obj c1 (fun e => e)); have PT := Lib.hid (t1.pure t2)
  have s2 : g8 < w2.heap.size := by have := t2.size; omega
  clear c1 t1 s1 t2
  go_wp2_with (refine wpList_allocZ rfl 157 rfl (kindC (0, 0, 0)) zeroK ?_)
  intro g10 w3 e3 c3 t3 s3
  have l10 : g8 < g10 := by omega
  clear e3
  go_wp2_with (refine wpList_store_blk rfl 157 _ _ rfl g10 _ (kindC (4, 67, 4)) _ rfl rfl c3 rfl (by rw [infoK]; rfl) (by simp [Value.oneCell']) ?_)
  intro w4 c4 t4 s4
  have D10 := Lib.hid c4; have D8 := Lib.hid (t4.obj (t3.obj D8.out (fun e => e)) (by omega)); have PT := Lib.hid ((PT.out.pure t3).trans t4 fun x hx e => by omega : Pure w w4)
  have s4g : g10 < w4.heap.size := by omega
  clear c3 t3 s3 c4 t4 s4 s2
  go_wp2_with fail
  refine (HPO.out _).mono ?_
  rintro e w5 ⟨rfl, t5⟩
  have D10 := Lib.hid (t5.obj D10.out (fun e => e)); have D8 := Lib.hid (t5.obj D8.out (fun e => e)); have PT := Lib.hid (PT.out.pure t5)
  have k1 : w5.cell? ⟨g10, 1, none⟩ = some (.int .i64 67) := by rw [cell_of_row w5 g10 1 _ _ _ D10.out]; rfl
  clear t5 s4g HKO HPO
  go_wp2
  clear k1
  go_loopw [14, 15, 41] (fun all _ i wr => ∃ k : Nat, k ≤ 67 ∧ all = .string (bstr (chainsV head (fun _ => 0) (fun _ => 2 ^ 4 - 1) (fun i => startV head i seed) k)) ∧ i = .int .i64 (k : Int) ∧ Hid (wr.heap[g10]? = some (.cells (kindC (4, 67, 4)).toArray 157 (0, 0))) ∧ Hid (wr.heap[g8]? = some (.cells X.toArray 62 (0, 0))) ∧ Hid (Pure w wr)) (fun _ _ i _ => 67 - (intOf i).toNat)
  case atStart => exact ⟨0, by omega, rfl, rfl, D10, D8, PT⟩
  case round =>
    obtain ⟨k, hk, rfl, rfl, HD10, HD8, HP⟩ := hrel
    by_cases hlt : k < 67
    · have q1 : (k : Int) < 67 := by omega
      have i1 : IntKind.i64.wrap ((k : Int) + 1) = ((k + 1 : Nat) : Int) := by rw [IntWalk.i64_in _ (by omega)]; omega
      have hkl := chainsV_length head (fun _ => 0) (fun _ => 2 ^ 4 - 1) (fun i => startV head i seed) k (fun i _ => startV_length _ _ _)
      have hnext : chainsV head (fun _ => 0) (fun _ => 2 ^ 4 - 1) (fun i => startV head i seed) (k + 1) = chainsV head (fun _ => 0) (fun _ => 2 ^ 4 - 1) (fun i => startV head i seed) k ++ stepsV head k 0 (2 ^ 4 - 1) (startV head k seed) := rfl
      have hwk := fun W => walk_any W head k 0 15 (startV head k seed) (by omega) (by omega) (startV_length _ _ _)
      have hst := fun W => start_any W head seed k (by omega) (by omega)
      have hyl : (stepsV head k 0 (2 ^ 4 - 1) (startV head k seed)).length = 32 := stepsV_length _ _ _ _ _ (startV_length _ _ _)
      obtain ⟨A, hA⟩ : ∃ A, A = chainsV head (fun _ => 0) (fun _ => 2 ^ 4 - 1) (fun i => startV head i seed) k := ⟨_, rfl⟩
      obtain ⟨y, hy⟩ : ∃ y, y = stepsV head k 0 (2 ^ 4 - 1) (startV head k seed) := ⟨_, rfl⟩
      obtain ⟨A2, hA2⟩ : ∃ A2, A2 = A ++ y := ⟨_, rfl⟩
      have hwk : ∀ W, Calls Try.prog 102 #[.string (bstr head), .int .i64 (k : Int), .int .i64 0, .int .i64 15, .string (bstr (startV head k seed))] W fun e w' => e = .returned (.string (bstr y)) ∧ Pure W w' := fun W => by rw [hy]; exact hwk W
      rw [← hA] at hkl hnext ⊢
      rw [← hy] at hnext hyl
      rw [← hA2] at hnext
      have a1 : bstr A ++ bstr y = bstr A2 := by rw [hA2]; exact bstr_app _ _
      have z1 : (bstr A).size = 32 * k := by rw [bstr_size, hkl]
      have z2 : (bstr y).size = 32 := by rw [bstr_size, hyl]
      have n1 : ¬ (9223372036854775807 < 32 * k + 32) := by omega
      generalize startV head k seed = x at hwk hst
      have HW := Lib.hid hwk; have HST := Lib.hid hst; have HNX := Lib.hid hnext
      have k0 : wr.cell? ⟨g10, 0, none⟩ = some (.int .i64 4) := by rw [cell_of_row wr g10 0 _ _ _ HD10.out]; rfl
      have x2 : IntKind.i64.wrap 16 = 16 := IntWalk.i64_in _ (by omega)
      have x3 : IntKind.i64.wrap 15 = 15 := IntWalk.i64_in _ (by omega)
      clear hwk hst hnext hyl hkl hA hy hA2
      go_wp2_with fail
      refine wp_region_held_drew (S := fun w' => w'.cell? ⟨g10, 0, none⟩ = some (.int .i64 4)) (by kernel_rfl) (show wr.drew.cell? ⟨g10, 0, none⟩ = some (.int .i64 4) from k0) (fun hHeld => ?_)
      have HS := Lib.hid hHeld
      have HP := Lib.hid HP.out.drew
      have HD10 := Lib.hid (show wr.drew.heap[g10]? = _ from HD10.out); have HD8 := Lib.hid (show wr.drew.heap[g8]? = _ from HD8.out)
      clear hHeld k0
      generalize wr.drew = wr at *
      refine wpAnyH_take (i := 0) (v := .string (bstr A)) rfl (by kernel_rfl) (by kernel_rfl) (by kernel_rfl) (fun _ _ _ h => h) (Or.inl ⟨by rfl, fun w hSw => by go_simp⟩) HS.out ?_
      simp only [AP]
      refine wpAnyH_take (i := 1) (v := .string (bstr head)) rfl (by kernel_rfl) (by kernel_rfl) (by kernel_rfl) (fun _ _ _ h => h) (Or.inl ⟨by rfl, fun w hSw => by go_simp⟩) HS.out ?_
      simp only [AP]
      refine wpAnyH_take (i := 2) (v := .int .i64 (k : Int)) rfl (by kernel_rfl) (by kernel_rfl) (by kernel_rfl) (fun _ _ _ h => h) (Or.inl ⟨by rfl, fun w hSw => by go_simp⟩) HS.out ?_
      simp only [AP]
      refine wpAnyH_take (i := 3) (v := .pointer (some ⟨g10, 0, none⟩)) rfl (by kernel_rfl) (by kernel_rfl) (by kernel_rfl) (fun _ _ _ h => h) (Or.inl ⟨by rfl, fun w hSw => by go_simp⟩) HS.out ?_
      simp only [AP]
      refine wpAnyH_take (i := 4) (v := .int .i64 4) rfl (by kernel_rfl) (by kernel_rfl) (by kernel_rfl) (fun _ _ _ h => h) (Or.inl ⟨by rfl, fun w hSw => by go_simp⟩) HS.out ?_
      simp only [AP]
      refine wpAnyH_take (i := 5) (v := .int .i64 16) rfl (by kernel_rfl) (by kernel_rfl) (by kernel_rfl) (fun _ _ _ h => h) (Or.inl ⟨by rfl, fun w hSw => by go_simp⟩) HS.out ?_
      simp only [AP]
      refine wpAnyH_take (i := 6) (v := .int .i64 15) rfl (by kernel_rfl) (by kernel_rfl) (by kernel_rfl) (fun _ _ _ h => h) (Or.inl ⟨by rfl, fun w hSw => by go_simp⟩) HS.out ?_
      simp only [AP]
      refine wpAnyH_take (i := 7) (v := .string (bstr head)) rfl (by kernel_rfl) (by kernel_rfl) (by kernel_rfl) (fun _ _ _ h => h) (Or.inl ⟨by rfl, fun w hSw => by go_simp⟩) HS.out ?_
      simp only [AP]
      refine wpAnyH_take (i := 8) (v := .int .i64 (k : Int)) rfl (by kernel_rfl) (by kernel_rfl) (by kernel_rfl) (fun _ _ _ h => h) (Or.inl ⟨by rfl, fun w hSw => by go_simp⟩) HS.out ?_
      simp only [AP]
      refine wpAnyH_take (i := 9) (v := .string (bstr seed)) rfl (by kernel_rfl) (by kernel_rfl) (by kernel_rfl) (fun _ _ _ h => h) (Or.inl ⟨by rfl, fun w hSw => by go_simp⟩) HS.out ?_
      simp only [AP]
      refine wpAnyH_step (i := 10) (by kernel_rfl) rfl fun K hK => ?_
      go_simp
      refine (HST.out _).mono ?_
      rintro e w6 ⟨rfl, t6⟩
      have HP6 := Lib.hid (HP.out.pure t6); have HD106 := Lib.hid (t6.obj HD10.out (fun e => e)); have HD86 := Lib.hid (t6.obj HD8.out (fun e => e)); have HS6 := Lib.hid (t6.cell HS.out (fun e => e))
      refine hK.out _ _ HS6.out ?_
      clear hK K t6 HP HD10 HD8 HS
      try simp only [AP]
      refine wpAnyH_step (i := 11) (by kernel_rfl) rfl fun K hK => ?_
      go_simp
      refine (HW.out _).mono ?_
      rintro e w7 ⟨rfl, t7⟩
      have HP := Lib.hid (HP6.out.pure t7); have HD10 := Lib.hid (t7.obj HD106.out (fun e => e)); have HD8 := Lib.hid (t7.obj HD86.out (fun e => e)); have HS := Lib.hid (t7.cell HS6.out (fun e => e))
      refine hK.out _ _ HS.out ?_
      clear hK K t7 HP6 HD106 HD86 HS6
      try simp only [AP]
      refine wpAnyH_take (i := 12) (v := .string (bstr A2)) rfl (by kernel_rfl) (by kernel_rfl) (by kernel_rfl) (fun _ _ _ h => h) (Or.inl ⟨by rfl, fun w hSw => by go_simp⟩) HS.out ?_
      simp only [AP]
      refine wpAnyH_take (i := 13) (v := .string (bstr A2)) rfl (by kernel_rfl) (by kernel_rfl) (by kernel_rfl) (fun _ _ _ h => h) (Or.inl ⟨by rfl, fun w hSw => by go_simp⟩) HS.out ?_
      simp only [AP]
      refine wpAnyH_done (by kernel_rfl) ?_ _
      go_wp2
      exact ⟨⟨k + 1, by omega, by rw [HNX.out], by first | rfl | trivial, HD10, HD8, HP⟩, by simp [intOf]; omega⟩
    · have q1 : ¬ ((k : Int) < 67) := by omega
      obtain rfl : k = pp := by have := HPP.out; omega
      rw [← HALL.out]
      go_wp2_with fail
      refine (HHA.out _).mono ?_
      rintro e w6 ⟨rfl, t6⟩
      have HP6 := Lib.hid (HP.out.pure t6); have HD86 := Lib.hid (t6.obj HD8.out (fun e => e))
      clear t6 HP HD8 HD10
      have hcv := Lib.run_convert_string_bytes (P := Try.prog) w6 9 65 5 (bstr PUB) Try.underlying9 Try.underlying65 Try.underlying5
      rw [zp] at hcv
      generalize grownCap w6 32 0 5 = cap at hcv
      have hB : Pure w6 (Lib.bytesWorld w6 5 (bstr PUB)) := bytesWorld_turn (Turn.refl _ _) _ _
      have hC : (Lib.bytesWorld w6 5 (bstr PUB)).rangeAt w6.heap.size 0 (u8s PUB) := by
        intro j v hv
        obtain ⟨hj, rfl⟩ := List.getElem?_eq_some_iff.1 hv
        rw [u8s_length] at hj
        rw [Nat.zero_add, Lib.bytesWorld_cell w6 _ _ j (by rw [bstr_size]; exact hj), bstr_data]
        simp [u8s, u8, List.getD, hj]
      have HP7 := Lib.hid (HP6.out.pure hB); have HD87 := Lib.hid (hB.obj HD86.out (fun e => e))
      generalize Lib.bytesWorld w6 5 (bstr PUB) = w7 at hcv hB hC HP7 HD87
      have hap := arrayAt_ok (P := Try.prog) w7 62 5 32 cap ⟨w6.heap.size, 0, none⟩ Try.underlying62
      have HC := Lib.hid hC
      clear hB hC HP6 HD86
      go_wp2_with (first | (refine wpList_load_mid rfl 62 _ rfl w6.heap.size 0 rfl (u8s PUB) _ HC.out Try.underlying62 rfl (info28_l hPl) ?_) | (refine wpList_store_blk rfl 62 _ _ rfl g8 _ (u8s PUB) _ rfl rfl HD87.out (size28 hXl hPl) (info28_l hPl) (u8s_one _) ?_))
      intro w8 c8 t8 _
      have hO := Lib.hid c8
      have PF := Lib.hid (HP7.out.trans t8 fun x hx e => by omega : Pure w w8)
      clear c8 t8 hcv hap
      go_wp2
      exact bodyPost_ret (v := .tuple #[hv PUB, .int .i64 0]) (results_cell2 Try.results123 _ _ g8 _ (u8s PUB).toArray _ _ rfl hO.out Try.underlying62 rfl (info28_a hPl)) rfl ⟨rfl, PF.out⟩

set_option maxRecDepth 100000 in
set_option maxHeartbeats 4000000 in
theorem Public_4 (w : World) (id seed : List UInt8) (q : Nat) (hid : id.length = 16) (hq : q ≤ 4294967295) (hsd : seed.length = 32) :
    Calls Try.prog 123 #[.int .i64 4, .string (bstr id), .int .i64 (q : Int), .string (bstr seed)] w fun e w' => e = .returned (.tuple #[hv (otsPubV 8 34 (placeV id q) seed), .int .i64 0]) ∧ Pure w w' := by
  obtain ⟨X, hXl, HZ⟩ := ex28
  have hko : ∀ W, Calls Try.prog 99 #[.int .i64 4] W fun e w' => e = .returned (.tuple #[.agg (kindC (8, 34, 0)).toArray, .bool true]) ∧ Pure W w' := fun W => kindOf_any W 4
  have hpo := fun W => placeOf_nat id q W hid hq
  have hhl : (placeV id q).length = 20 := by rw [placeV, List.length_append, beB_length, hid]
  generalize placeV id q = head at hpo hhl ⊢
  obtain ⟨pp, hpp⟩ : ∃ pp : Nat, pp = 34 := ⟨_, rfl⟩
  obtain ⟨ALL, hALL⟩ : ∃ ALL, ALL = chainsV head (fun _ => 0) (fun _ => 2 ^ 8 - 1) (fun i => startV head i seed) pp := ⟨_, rfl⟩
  have hAl : ALL.length = 32 * pp := by rw [hALL, chainsV_length _ _ _ _ _ (fun i _ => startV_length _ _ _)]
  rw [← hpp]
  have hV : otsPubV 8 pp head seed = shaV (head ++ beB 32896 2 ++ ALL) := by rw [hALL, otsPubV]
  have hha := fun W => hash_any W head ALL 32896 (by omega) (by omega)
  rw [hV]
  rw [← hV] at hha
  have hPl : (otsPubV 8 pp head seed).length = 32 := shaV_length _
  rw [← hV]
  generalize otsPubV 8 pp head seed = PUB at hha hPl ⊢
  have HKO := Lib.hid hko; have HPO := Lib.hid hpo; have HHA := Lib.hid hha; have HALL := Lib.hid hALL
  have zs := bstr_size seed
  rw [hsd] at zs
  have zp : (bstr PUB).size = 32 := by rw [bstr_size, hPl]
  have HPP := Lib.hid hpp
  clear hko hpo hha hALL hV hpp
  go_enter Try.func123, Try.ntmps123
  go_wp2_with (refine wpList_allocZ rfl 62 rfl X HZ.out ?_)
  intro g8 w1 e1 c1 t1 s1
  have l8 : w.heap.size ≤ g8 := by omega
  clear e1
  go_wp2_with fail
  refine (HKO.out _).mono ?_
  rintro e w2 ⟨rfl, t2⟩
  have D8 := Lib.hid (t2.obj c1 (fun e => e)); have PT := Lib.hid (t1.pure t2)
  have s2 : g8 < w2.heap.size := by have := t2.size; omega
  clear c1 t1 s1 t2
  go_wp2_with (refine wpList_allocZ rfl 157 rfl (kindC (0, 0, 0)) zeroK ?_)
  intro g10 w3 e3 c3 t3 s3
  have l10 : g8 < g10 := by omega
  clear e3
  go_wp2_with (refine wpList_store_blk rfl 157 _ _ rfl g10 _ (kindC (8, 34, 0)) _ rfl rfl c3 rfl (by rw [infoK]; rfl) (by simp [Value.oneCell']) ?_)
  intro w4 c4 t4 s4
  have D10 := Lib.hid c4; have D8 := Lib.hid (t4.obj (t3.obj D8.out (fun e => e)) (by omega)); have PT := Lib.hid ((PT.out.pure t3).trans t4 fun x hx e => by omega : Pure w w4)
  have s4g : g10 < w4.heap.size := by omega
  clear c3 t3 s3 c4 t4 s4 s2
  go_wp2_with fail
  refine (HPO.out _).mono ?_
  rintro e w5 ⟨rfl, t5⟩
  have D10 := Lib.hid (t5.obj D10.out (fun e => e)); have D8 := Lib.hid (t5.obj D8.out (fun e => e)); have PT := Lib.hid (PT.out.pure t5)
  have k1 : w5.cell? ⟨g10, 1, none⟩ = some (.int .i64 34) := by rw [cell_of_row w5 g10 1 _ _ _ D10.out]; rfl
  clear t5 s4g HKO HPO
  go_wp2
  clear k1
  go_loopw [14, 15, 41] (fun all _ i wr => ∃ k : Nat, k ≤ 34 ∧ all = .string (bstr (chainsV head (fun _ => 0) (fun _ => 2 ^ 8 - 1) (fun i => startV head i seed) k)) ∧ i = .int .i64 (k : Int) ∧ Hid (wr.heap[g10]? = some (.cells (kindC (8, 34, 0)).toArray 157 (0, 0))) ∧ Hid (wr.heap[g8]? = some (.cells X.toArray 62 (0, 0))) ∧ Hid (Pure w wr)) (fun _ _ i _ => 34 - (intOf i).toNat)
  case atStart => exact ⟨0, by omega, rfl, rfl, D10, D8, PT⟩
  case round =>
    obtain ⟨k, hk, rfl, rfl, HD10, HD8, HP⟩ := hrel
    by_cases hlt : k < 34
    · have q1 : (k : Int) < 34 := by omega
      have i1 : IntKind.i64.wrap ((k : Int) + 1) = ((k + 1 : Nat) : Int) := by rw [IntWalk.i64_in _ (by omega)]; omega
      have hkl := chainsV_length head (fun _ => 0) (fun _ => 2 ^ 8 - 1) (fun i => startV head i seed) k (fun i _ => startV_length _ _ _)
      have hnext : chainsV head (fun _ => 0) (fun _ => 2 ^ 8 - 1) (fun i => startV head i seed) (k + 1) = chainsV head (fun _ => 0) (fun _ => 2 ^ 8 - 1) (fun i => startV head i seed) k ++ stepsV head k 0 (2 ^ 8 - 1) (startV head k seed) := rfl
      have hwk := fun W => walk_any W head k 0 255 (startV head k seed) (by omega) (by omega) (startV_length _ _ _)
      have hst := fun W => start_any W head seed k (by omega) (by omega)
      have hyl : (stepsV head k 0 (2 ^ 8 - 1) (startV head k seed)).length = 32 := stepsV_length _ _ _ _ _ (startV_length _ _ _)
      obtain ⟨A, hA⟩ : ∃ A, A = chainsV head (fun _ => 0) (fun _ => 2 ^ 8 - 1) (fun i => startV head i seed) k := ⟨_, rfl⟩
      obtain ⟨y, hy⟩ : ∃ y, y = stepsV head k 0 (2 ^ 8 - 1) (startV head k seed) := ⟨_, rfl⟩
      obtain ⟨A2, hA2⟩ : ∃ A2, A2 = A ++ y := ⟨_, rfl⟩
      have hwk : ∀ W, Calls Try.prog 102 #[.string (bstr head), .int .i64 (k : Int), .int .i64 0, .int .i64 255, .string (bstr (startV head k seed))] W fun e w' => e = .returned (.string (bstr y)) ∧ Pure W w' := fun W => by rw [hy]; exact hwk W
      rw [← hA] at hkl hnext ⊢
      rw [← hy] at hnext hyl
      rw [← hA2] at hnext
      have a1 : bstr A ++ bstr y = bstr A2 := by rw [hA2]; exact bstr_app _ _
      have z1 : (bstr A).size = 32 * k := by rw [bstr_size, hkl]
      have z2 : (bstr y).size = 32 := by rw [bstr_size, hyl]
      have n1 : ¬ (9223372036854775807 < 32 * k + 32) := by omega
      generalize startV head k seed = x at hwk hst
      have HW := Lib.hid hwk; have HST := Lib.hid hst; have HNX := Lib.hid hnext
      have k0 : wr.cell? ⟨g10, 0, none⟩ = some (.int .i64 8) := by rw [cell_of_row wr g10 0 _ _ _ HD10.out]; rfl
      have x2 : IntKind.i64.wrap 256 = 256 := IntWalk.i64_in _ (by omega)
      have x3 : IntKind.i64.wrap 255 = 255 := IntWalk.i64_in _ (by omega)
      clear hwk hst hnext hyl hkl hA hy hA2
      go_wp2_with fail
      refine wp_region_held_drew (S := fun w' => w'.cell? ⟨g10, 0, none⟩ = some (.int .i64 8)) (by kernel_rfl) (show wr.drew.cell? ⟨g10, 0, none⟩ = some (.int .i64 8) from k0) (fun hHeld => ?_)
      have HS := Lib.hid hHeld
      have HP := Lib.hid HP.out.drew
      have HD10 := Lib.hid (show wr.drew.heap[g10]? = _ from HD10.out); have HD8 := Lib.hid (show wr.drew.heap[g8]? = _ from HD8.out)
      clear hHeld k0
      generalize wr.drew = wr at *
      refine wpAnyH_take (i := 0) (v := .string (bstr A)) rfl (by kernel_rfl) (by kernel_rfl) (by kernel_rfl) (fun _ _ _ h => h) (Or.inl ⟨by rfl, fun w hSw => by go_simp⟩) HS.out ?_
      simp only [AP]
      refine wpAnyH_take (i := 1) (v := .string (bstr head)) rfl (by kernel_rfl) (by kernel_rfl) (by kernel_rfl) (fun _ _ _ h => h) (Or.inl ⟨by rfl, fun w hSw => by go_simp⟩) HS.out ?_
      simp only [AP]
      refine wpAnyH_take (i := 2) (v := .int .i64 (k : Int)) rfl (by kernel_rfl) (by kernel_rfl) (by kernel_rfl) (fun _ _ _ h => h) (Or.inl ⟨by rfl, fun w hSw => by go_simp⟩) HS.out ?_
      simp only [AP]
      refine wpAnyH_take (i := 3) (v := .pointer (some ⟨g10, 0, none⟩)) rfl (by kernel_rfl) (by kernel_rfl) (by kernel_rfl) (fun _ _ _ h => h) (Or.inl ⟨by rfl, fun w hSw => by go_simp⟩) HS.out ?_
      simp only [AP]
      refine wpAnyH_take (i := 4) (v := .int .i64 8) rfl (by kernel_rfl) (by kernel_rfl) (by kernel_rfl) (fun _ _ _ h => h) (Or.inl ⟨by rfl, fun w hSw => by go_simp⟩) HS.out ?_
      simp only [AP]
      refine wpAnyH_take (i := 5) (v := .int .i64 256) rfl (by kernel_rfl) (by kernel_rfl) (by kernel_rfl) (fun _ _ _ h => h) (Or.inl ⟨by rfl, fun w hSw => by go_simp⟩) HS.out ?_
      simp only [AP]
      refine wpAnyH_take (i := 6) (v := .int .i64 255) rfl (by kernel_rfl) (by kernel_rfl) (by kernel_rfl) (fun _ _ _ h => h) (Or.inl ⟨by rfl, fun w hSw => by go_simp⟩) HS.out ?_
      simp only [AP]
      refine wpAnyH_take (i := 7) (v := .string (bstr head)) rfl (by kernel_rfl) (by kernel_rfl) (by kernel_rfl) (fun _ _ _ h => h) (Or.inl ⟨by rfl, fun w hSw => by go_simp⟩) HS.out ?_
      simp only [AP]
      refine wpAnyH_take (i := 8) (v := .int .i64 (k : Int)) rfl (by kernel_rfl) (by kernel_rfl) (by kernel_rfl) (fun _ _ _ h => h) (Or.inl ⟨by rfl, fun w hSw => by go_simp⟩) HS.out ?_
      simp only [AP]
      refine wpAnyH_take (i := 9) (v := .string (bstr seed)) rfl (by kernel_rfl) (by kernel_rfl) (by kernel_rfl) (fun _ _ _ h => h) (Or.inl ⟨by rfl, fun w hSw => by go_simp⟩) HS.out ?_
      simp only [AP]
      refine wpAnyH_step (i := 10) (by kernel_rfl) rfl fun K hK => ?_
      go_simp
      refine (HST.out _).mono ?_
      rintro e w6 ⟨rfl, t6⟩
      have HP6 := Lib.hid (HP.out.pure t6); have HD106 := Lib.hid (t6.obj HD10.out (fun e => e)); have HD86 := Lib.hid (t6.obj HD8.out (fun e => e)); have HS6 := Lib.hid (t6.cell HS.out (fun e => e))
      refine hK.out _ _ HS6.out ?_
      clear hK K t6 HP HD10 HD8 HS
      try simp only [AP]
      refine wpAnyH_step (i := 11) (by kernel_rfl) rfl fun K hK => ?_
      go_simp
      refine (HW.out _).mono ?_
      rintro e w7 ⟨rfl, t7⟩
      have HP := Lib.hid (HP6.out.pure t7); have HD10 := Lib.hid (t7.obj HD106.out (fun e => e)); have HD8 := Lib.hid (t7.obj HD86.out (fun e => e)); have HS := Lib.hid (t7.cell HS6.out (fun e => e))
      refine hK.out _ _ HS.out ?_
      clear hK K t7 HP6 HD106 HD86 HS6
      try simp only [AP]
      refine wpAnyH_take (i := 12) (v := .string (bstr A2)) rfl (by kernel_rfl) (by kernel_rfl) (by kernel_rfl) (fun _ _ _ h => h) (Or.inl ⟨by rfl, fun w hSw => by go_simp⟩) HS.out ?_
      simp only [AP]
      refine wpAnyH_take (i := 13) (v := .string (bstr A2)) rfl (by kernel_rfl) (by kernel_rfl) (by kernel_rfl) (fun _ _ _ h => h) (Or.inl ⟨by rfl, fun w hSw => by go_simp⟩) HS.out ?_
      simp only [AP]
      refine wpAnyH_done (by kernel_rfl) ?_ _
      go_wp2
      exact ⟨⟨k + 1, by omega, by rw [HNX.out], by first | rfl | trivial, HD10, HD8, HP⟩, by simp [intOf]; omega⟩
    · have q1 : ¬ ((k : Int) < 34) := by omega
      obtain rfl : k = pp := by have := HPP.out; omega
      rw [← HALL.out]
      go_wp2_with fail
      refine (HHA.out _).mono ?_
      rintro e w6 ⟨rfl, t6⟩
      have HP6 := Lib.hid (HP.out.pure t6); have HD86 := Lib.hid (t6.obj HD8.out (fun e => e))
      clear t6 HP HD8 HD10
      have hcv := Lib.run_convert_string_bytes (P := Try.prog) w6 9 65 5 (bstr PUB) Try.underlying9 Try.underlying65 Try.underlying5
      rw [zp] at hcv
      generalize grownCap w6 32 0 5 = cap at hcv
      have hB : Pure w6 (Lib.bytesWorld w6 5 (bstr PUB)) := bytesWorld_turn (Turn.refl _ _) _ _
      have hC : (Lib.bytesWorld w6 5 (bstr PUB)).rangeAt w6.heap.size 0 (u8s PUB) := by
        intro j v hv
        obtain ⟨hj, rfl⟩ := List.getElem?_eq_some_iff.1 hv
        rw [u8s_length] at hj
        rw [Nat.zero_add, Lib.bytesWorld_cell w6 _ _ j (by rw [bstr_size]; exact hj), bstr_data]
        simp [u8s, u8, List.getD, hj]
      have HP7 := Lib.hid (HP6.out.pure hB); have HD87 := Lib.hid (hB.obj HD86.out (fun e => e))
      generalize Lib.bytesWorld w6 5 (bstr PUB) = w7 at hcv hB hC HP7 HD87
      have hap := arrayAt_ok (P := Try.prog) w7 62 5 32 cap ⟨w6.heap.size, 0, none⟩ Try.underlying62
      have HC := Lib.hid hC
      clear hB hC HP6 HD86
      go_wp2_with (first | (refine wpList_load_mid rfl 62 _ rfl w6.heap.size 0 rfl (u8s PUB) _ HC.out Try.underlying62 rfl (info28_l hPl) ?_) | (refine wpList_store_blk rfl 62 _ _ rfl g8 _ (u8s PUB) _ rfl rfl HD87.out (size28 hXl hPl) (info28_l hPl) (u8s_one _) ?_))
      intro w8 c8 t8 _
      have hO := Lib.hid c8
      have PF := Lib.hid (HP7.out.trans t8 fun x hx e => by omega : Pure w w8)
      clear c8 t8 hcv hap
      go_wp2
      exact bodyPost_ret (v := .tuple #[hv PUB, .int .i64 0]) (results_cell2 Try.results123 _ _ g8 _ (u8s PUB).toArray _ _ rfl hO.out Try.underlying62 rfl (info28_a hPl)) rfl ⟨rfl, PF.out⟩

theorem builtH0 : Try.prog.built 62 [] = some (u8s (List.replicate 32 0)).toArray := by kernel_rfl
theorem wpList_buildH0 {ops : Array Oper} {rest : List Oper} {o : Oper} {a : Act} {w : World} {Q : Exit → Act → World → Prop} (hg : o.guard = none) (ho : o.op = .build 62 #[])
    (h : wpList Try.prog ops Q rest (a.put o.dst (hv (List.replicate 32 0))) w) : wpList Try.prog ops Q (o :: rest) a w := by
  refine wpList_plain hg fun _ hK => ?_
  have hb : Try.prog.built 62 ((#[] : Array (Nat × Operand)).map fun (i, x) => (i, a.eval x)).toList = some (u8s (List.replicate 32 0)).toArray := by rw [← builtH0]; simp
  refine wp_build 62 _ ho (by rw [hb]; rfl) ?_
  rw [hb]
  exact hK _ _ h

set_option maxRecDepth 100000 in
set_option maxHeartbeats 2000000 in
theorem Public_bad (w : World) (k : Int) (id seed : List UInt8) (q : Int) (hid : id.length ≤ 140737488351232) (hbad : ¬ (kindB k = true ∧ placeB id q = true ∧ seed.length = 32)) :
    Calls Try.prog 123 #[.int .i64 k, .string (bstr id), .int .i64 q, .string (bstr seed)] w fun e w' => e = .returned (.tuple #[hv (List.replicate 32 0), .int .i64 400]) ∧ Pure w w' := by
  obtain ⟨X, hXl, HZ⟩ := ex28
  have hko := fun W => kindOf_any W k
  have hpo := fun W => placeOf_any id q W hid
  have zs := bstr_size seed
  generalize parV k = K3 at hko
  generalize kindB k = KB at hko hbad
  generalize placeB id q = PB at hpo hbad
  generalize id ++ beI q 4 = HD at hpo
  obtain ⟨n, hn⟩ : ∃ n, n = seed.length := ⟨_, rfl⟩
  rw [← hn] at zs hbad
  clear hn
  have HPO := Lib.hid hpo
  cases KB with
  | false =>
    have HKO := Lib.hid hko
    clear hko hpo hbad
    go_enter Try.func123, Try.ntmps123
    go_wp2_with (refine wpList_allocZ rfl 62 rfl X HZ.out ?_)
    intro g8 w1 e1 c1 t1 s1
    have l8 : w.heap.size ≤ g8 := by omega
    clear e1
    go_wp2_with fail
    refine (HKO.out _).mono ?_
    rintro e w2 ⟨rfl, t2⟩
    have D8 := Lib.hid (t2.obj c1 (fun e => e)); have PT := Lib.hid (t1.pure t2)
    have s2 : g8 < w2.heap.size := by have := t2.size; omega
    clear c1 t1 s1 t2
    go_wp2_with (refine wpList_allocZ rfl 157 rfl (kindC (0, 0, 0)) zeroK ?_)
    intro g10 w3 e3 c3 t3 s3
    have l10 : g8 < g10 := by omega
    clear e3
    go_wp2_with (refine wpList_store_blk rfl 157 _ _ rfl g10 _ (kindC K3) _ rfl rfl c3 rfl (by rw [infoK]; rfl) (by simp [Value.oneCell']) ?_)
    intro w4 c4 t4 s4
    have D8 := Lib.hid (t4.obj (t3.obj D8.out (fun e => e)) (by omega)); have PT := Lib.hid ((PT.out.pure t3).trans t4 fun x hx e => by omega : Pure w w4)
    clear c3 t3 s3 c4 t4 s4 s2
    go_wp2_with fail
    refine (HPO.out _).mono ?_
    rintro e w5 ⟨rfl, t5⟩
    have D8 := Lib.hid (t5.obj D8.out (fun e => e)); have PT := Lib.hid (PT.out.pure t5)
    clear t5 HKO HPO
    go_wp2_with (first | (refine wpList_buildH0 rfl rfl ?_) | (refine wpList_store_blk rfl 62 _ _ rfl g8 _ (u8s (List.replicate 32 0)) _ rfl rfl D8.out (size28 hXl (by simp)) (info28_l (by simp)) (u8s_one _) ?_))
    intro w8 c8 t8 _
    have hO := Lib.hid c8
    have PF := Lib.hid (PT.out.trans t8 fun x hx e => by omega : Pure w w8)
    clear c8 t8
    go_wp2
    exact bodyPost_ret (v := .tuple #[hv (List.replicate 32 0), .int .i64 400]) (results_cell2 Try.results123 _ _ g8 _ (u8s (List.replicate 32 0)).toArray _ _ rfl hO.out Try.underlying62 rfl (info28_a (by simp))) rfl ⟨rfl, PF.out⟩
  | true =>
    have HKO := Lib.hid hko
    cases PB with
    | false =>
      clear hko hpo hbad
      go_enter Try.func123, Try.ntmps123
      go_wp2_with (refine wpList_allocZ rfl 62 rfl X HZ.out ?_)
      intro g8 w1 e1 c1 t1 s1
      have l8 : w.heap.size ≤ g8 := by omega
      clear e1
      go_wp2_with fail
      refine (HKO.out _).mono ?_
      rintro e w2 ⟨rfl, t2⟩
      have D8 := Lib.hid (t2.obj c1 (fun e => e)); have PT := Lib.hid (t1.pure t2)
      have s2 : g8 < w2.heap.size := by have := t2.size; omega
      clear c1 t1 s1 t2
      go_wp2_with (refine wpList_allocZ rfl 157 rfl (kindC (0, 0, 0)) zeroK ?_)
      intro g10 w3 e3 c3 t3 s3
      have l10 : g8 < g10 := by omega
      clear e3
      go_wp2_with (refine wpList_store_blk rfl 157 _ _ rfl g10 _ (kindC K3) _ rfl rfl c3 rfl (by rw [infoK]; rfl) (by simp [Value.oneCell']) ?_)
      intro w4 c4 t4 s4
      have D8 := Lib.hid (t4.obj (t3.obj D8.out (fun e => e)) (by omega)); have PT := Lib.hid ((PT.out.pure t3).trans t4 fun x hx e => by omega : Pure w w4)
      clear c3 t3 s3 c4 t4 s4 s2
      go_wp2_with fail
      refine (HPO.out _).mono ?_
      rintro e w5 ⟨rfl, t5⟩
      have D8 := Lib.hid (t5.obj D8.out (fun e => e)); have PT := Lib.hid (PT.out.pure t5)
      clear t5 HKO HPO
      go_wp2_with (first | (refine wpList_buildH0 rfl rfl ?_) | (refine wpList_store_blk rfl 62 _ _ rfl g8 _ (u8s (List.replicate 32 0)) _ rfl rfl D8.out (size28 hXl (by simp)) (info28_l (by simp)) (u8s_one _) ?_))
      intro w8 c8 t8 _
      have hO := Lib.hid c8
      have PF := Lib.hid (PT.out.trans t8 fun x hx e => by omega : Pure w w8)
      clear c8 t8
      go_wp2
      exact bodyPost_ret (v := .tuple #[hv (List.replicate 32 0), .int .i64 400]) (results_cell2 Try.results123 _ _ g8 _ (u8s (List.replicate 32 0)).toArray _ _ rfl hO.out Try.underlying62 rfl (info28_a (by simp))) rfl ⟨rfl, PF.out⟩
    | true =>
      have q1 : ((n : Int) != 32) = true := by have : n ≠ 32 := fun h => hbad ⟨rfl, rfl, h⟩; simp; omega
      have q2 : (n != 32) = true := by have : n ≠ 32 := fun h => hbad ⟨rfl, rfl, h⟩; simp; omega
      clear hko hpo hbad
      go_enter Try.func123, Try.ntmps123
      go_wp2_with (refine wpList_allocZ rfl 62 rfl X HZ.out ?_)
      intro g8 w1 e1 c1 t1 s1
      have l8 : w.heap.size ≤ g8 := by omega
      clear e1
      go_wp2_with fail
      refine (HKO.out _).mono ?_
      rintro e w2 ⟨rfl, t2⟩
      have D8 := Lib.hid (t2.obj c1 (fun e => e)); have PT := Lib.hid (t1.pure t2)
      have s2 : g8 < w2.heap.size := by have := t2.size; omega
      clear c1 t1 s1 t2
      go_wp2_with (refine wpList_allocZ rfl 157 rfl (kindC (0, 0, 0)) zeroK ?_)
      intro g10 w3 e3 c3 t3 s3
      have l10 : g8 < g10 := by omega
      clear e3
      go_wp2_with (refine wpList_store_blk rfl 157 _ _ rfl g10 _ (kindC K3) _ rfl rfl c3 rfl (by rw [infoK]; rfl) (by simp [Value.oneCell']) ?_)
      intro w4 c4 t4 s4
      have D8 := Lib.hid (t4.obj (t3.obj D8.out (fun e => e)) (by omega)); have PT := Lib.hid ((PT.out.pure t3).trans t4 fun x hx e => by omega : Pure w w4)
      clear c3 t3 s3 c4 t4 s4 s2
      go_wp2_with fail
      refine (HPO.out _).mono ?_
      rintro e w5 ⟨rfl, t5⟩
      have D8 := Lib.hid (t5.obj D8.out (fun e => e)); have PT := Lib.hid (PT.out.pure t5)
      clear t5 HKO HPO
      go_wp2_with (first | (refine wpList_buildH0 rfl rfl ?_) | (refine wpList_store_blk rfl 62 _ _ rfl g8 _ (u8s (List.replicate 32 0)) _ rfl rfl D8.out (size28 hXl (by simp)) (info28_l (by simp)) (u8s_one _) ?_))
      intro w8 c8 t8 _
      have hO := Lib.hid c8
      have PF := Lib.hid (PT.out.trans t8 fun x hx e => by omega : Pure w w8)
      clear c8 t8
      go_wp2
      exact bodyPost_ret (v := .tuple #[hv (List.replicate 32 0), .int .i64 400]) (results_cell2 Try.results123 _ _ g8 _ (u8s (List.replicate 32 0)).toArray _ _ rfl hO.out Try.underlying62 rfl (info28_a (by simp))) rfl ⟨rfl, PF.out⟩
end Go.Proofs.Ytcfbmbhkdicpfaa
