/- Chapter 4, the program: what a signature makes. -/
import Derived.Test.YtcfbmbhkdicpfaaOtsG
import Derived.Test.YtcfbmbhkdicpfaaOtsI
import Derived.Test.YtcfbmbhkdicpfaaOtsL
namespace Go.Proofs.Ytcfbmbhkdicpfaa
open Go.RowKit

set_option maxRecDepth 100000 in
set_option maxHeartbeats 4000000 in
theorem Candidate_3 (w : World) (id msg sign : List UInt8) (q : Nat) (hid : id.length = 16) (hq : q ≤ 4294967295) (hm : msg.length ≤ 65536) (hsl : sign.length = 2180) (hsk : kindSV sign = (3, true)) :
    Calls Try.prog 50 #[.string (bstr id), .int .i64 (q : Int), .string (bstr msg), .string (bstr sign)] w fun e w' => e = .returned (.tuple #[hv (otsCandV 4 67 4 (placeV id q) msg sign), .int .i64 0]) ∧ Pure w w' := by
  obtain ⟨X, hXl, HZ⟩ := ex28
  have hkd := fun W => Kind_any W sign (by omega)
  rw [hsk] at hkd
  have hko : ∀ W, Calls Try.prog 99 #[.int .i64 3] W fun e w' => e = .returned (.tuple #[.agg (kindC (4, 67, 4)).toArray, .bool true]) ∧ Pure W w' := fun W => kindOf_any W 3
  have hpo := fun W => placeOf_nat id q W hid hq
  have hhl : (placeV id q).length = 20 := by rw [placeV, List.length_append, beB_length, hid]
  generalize placeV id q = head at hpo hhl ⊢
  obtain ⟨pp, hpp⟩ : ∃ pp : Nat, pp = 67 := ⟨_, rfl⟩
  obtain ⟨c, hc⟩ : ∃ c, c = (sign.drop 4).take 32 := ⟨_, rfl⟩
  have hcl : c.length = 32 := by rw [hc]; simp; omega
  obtain ⟨Y, hY⟩ : ∃ Y, Y = sign.drop 36 := ⟨_, rfl⟩
  have hYl : Y.length = 32 * pp := by rw [hY, List.length_drop]; omega
  have ex1 : (bstr sign).extract 4 36 = bstr c := by rw [bstr_ext, hc, List.drop_take]
  have ex2 : (bstr sign).extract 36 sign.length = bstr Y := by rw [bstr_ext, hY, List.take_length]
  have ex3 : ∀ k, k < pp → (bstr Y).extract (32 * k) (32 * (k + 1)) = bstr ((sign.drop (36 + 32 * k)).take 32) := fun k _ => by
    rw [bstr_ext, hY, List.drop_take, List.drop_drop]
    congr 2
    omega
  have hxl : ∀ k, k < pp → ((sign.drop (36 + 32 * k)).take 32).length = 32 := fun k hk => by simp; omega
  obtain ⟨CM, hCM⟩ : ∃ CM, CM = c ++ msg := ⟨_, rfl⟩
  have hCMl : CM.length = 32 + msg.length := by rw [hCM, List.length_append, hcl]
  have a2 : bstr c ++ bstr msg = bstr CM := by rw [hCM]; exact bstr_app _ _
  have zc : (bstr c).size = 32 := by rw [bstr_size, hcl]
  have zm := bstr_size msg
  have zy : (bstr Y).size = 32 * pp := by rw [bstr_size, hYl]
  have zsg := bstr_size sign
  have n1 : ¬ (9223372036854775807 < 32 + msg.length) := by omega
  have hh2 := fun W => hash_any W head CM 33153 (by omega) (by omega)
  have hQ : otsQV head c msg = shaV (head ++ beB 33153 2 ++ CM) := by rw [otsQV, hCM]
  rw [← hQ] at hh2
  have hQl : (otsQV head c msg).length = 32 := shaV_length _
  have hcan : otsCandV 4 pp 4 head msg sign = shaV (head ++ beB 32896 2 ++ chainsV head (fun i => (digitsV 4 pp 4 (otsQV head c msg)).getD i 0) (fun i => 2 ^ 4 - 1 - (digitsV 4 pp 4 (otsQV head c msg)).getD i 0) (fun i => (sign.drop (36 + 32 * i)).take 32) pp) := by rw [otsCandV, hc]
  generalize otsQV head c msg = Q at hh2 hQl hcan
  have hdg := fun W => digits_4 W Q hQl
  rw [← hpp] at hdg ⊢
  have hdl := digitsV_length 4 pp 4 Q (by omega)
  have hdlt := digitsV_lt 4 pp 4 Q
  generalize digitsV 4 pp 4 Q = DL at hdg hdl hdlt hcan
  obtain ⟨ALL, hALL⟩ : ∃ ALL, ALL = chainsV head (fun i => DL.getD i 0) (fun i => 2 ^ 4 - 1 - DL.getD i 0) (fun i => (sign.drop (36 + 32 * i)).take 32) pp := ⟨_, rfl⟩
  have hAl : ALL.length = 32 * pp := by rw [hALL, chainsV_length _ _ _ _ _ (fun i hi => hxl i hi)]
  rw [← hALL] at hcan
  have hha := fun W => hash_any W head ALL 32896 (by omega) (by omega)
  rw [← hcan] at hha
  have hPl : (otsCandV 4 pp 4 head msg sign).length = 32 := by rw [hcan]; exact shaV_length _
  clear hcan
  generalize otsCandV 4 pp 4 head msg sign = PUB at hha hPl ⊢
  have zp : (bstr PUB).size = 32 := by rw [bstr_size, hPl]
  have HKD := Lib.hid hkd; have HKO := Lib.hid hko; have HPO := Lib.hid hpo; have HH2 := Lib.hid hh2; have HDG := Lib.hid hdg; have HHA := Lib.hid hha; have HALL := Lib.hid hALL; have HDL := Lib.hid (And.intro hdl hdlt); have HPP := Lib.hid hpp; have HEX := Lib.hid ex3; have HXL := Lib.hid hxl
  have hp1 : pp ≤ 67 := by omega
  have r1 : (36 : Int) ≤ sign.length := by omega
  clear hkd hko hpo hh2 hdg hha hALL hdl hdlt hpp ex3 hxl hc hY hCM hCMl hQ hQl hAl hcl hsk
  obtain ⟨sl, hsl2⟩ : ∃ sl, sl = sign.length := ⟨_, rfl⟩
  rw [← hsl2] at zsg ex2 r1 hsl
  have HSL := Lib.hid hsl
  clear hsl2 hsl
  go_enter Try.func50, Try.ntmps50
  go_wp2_with (refine wpList_allocZ rfl 62 rfl X HZ.out ?_)
  intro g8 w1 e1 c1 t1 s1
  have l8 : w.heap.size ≤ g8 := by omega
  clear e1
  go_wp2_with fail
  refine (HKD.out _).mono ?_
  rintro e w2 ⟨rfl, t2⟩
  have D8 := Lib.hid (t2.obj c1 (fun e => e)); have PT := Lib.hid (t1.pure t2)
  have s2 : g8 < w2.heap.size := by have := t2.size; omega
  clear c1 t1 s1 t2 HKD
  go_wp2_with fail
  refine (HPO.out _).mono ?_
  rintro e w3 ⟨rfl, t3⟩
  have D8 := Lib.hid (t3.obj D8.out (fun e => e)); have PT := Lib.hid (PT.out.pure t3)
  have s3 : g8 < w3.heap.size := by have := t3.size; omega
  clear t3 HPO s2
  go_wp2_with fail
  refine (HKO.out _).mono ?_
  rintro e w4 ⟨rfl, t4⟩
  have D8 := Lib.hid (t4.obj D8.out (fun e => e)); have PT := Lib.hid (PT.out.pure t4)
  have s4 : g8 < w4.heap.size := by have := t4.size; omega
  clear t4 HKO s3
  go_wp2_with (refine wpList_allocZ rfl 157 rfl (kindC (0, 0, 0)) zeroK ?_)
  intro g14 w5 e5 c5 t5 s5
  have l14 : g8 < g14 := by omega
  clear e5
  go_wp2_with (refine wpList_store_blk rfl 157 _ _ rfl g14 _ (kindC (4, 67, 4)) _ rfl rfl c5 rfl (by rw [infoK]; rfl) (by simp [Value.oneCell']) ?_)
  intro w6 c6 t6 s6
  have D14 := Lib.hid c6; have D8 := Lib.hid (t6.obj (t5.obj D8.out (fun e => e)) (by omega)); have PT := Lib.hid ((PT.out.pure t5).trans t6 fun x hx e => by omega : Pure w w6)
  clear c5 t5 s5 c6 t6 s6 s4
  go_wp2_with fail
  refine wp_region_held_drew (S := fun _ => True) (by kernel_rfl) trivial (fun _ => ?_)
  have PT := Lib.hid PT.out.drew
  have D14 := Lib.hid (show w6.drew.heap[g14]? = _ from D14.out); have D8 := Lib.hid (show w6.drew.heap[g8]? = _ from D8.out)
  generalize w6.drew = w7 at *
  refine wpAnyH_take (i := 0) (v := .string (bstr sign)) rfl (by kernel_rfl) (by kernel_rfl) (by kernel_rfl) (fun _ _ _ h => h) (Or.inl ⟨by rfl, fun w hSw => by go_simp⟩) trivial ?_
  simp only [AP]
  refine wpAnyH_take (i := 1) (v := .string (bstr c)) rfl (by kernel_rfl) (by kernel_rfl) (by kernel_rfl) (fun _ _ _ h => h) (Or.inl ⟨by rfl, fun w hSw => by go_simp⟩) trivial ?_
  simp only [AP]
  refine wpAnyH_take (i := 2) (v := .string (bstr sign)) rfl (by kernel_rfl) (by kernel_rfl) (by kernel_rfl) (fun _ _ _ h => h) (Or.inl ⟨by rfl, fun w hSw => by go_simp⟩) trivial ?_
  simp only [AP]
  refine wpAnyH_take (i := 3) (v := .string (bstr Y)) rfl (by kernel_rfl) (by kernel_rfl) (by kernel_rfl) (fun _ _ _ h => h) (Or.inl ⟨by rfl, fun w hSw => by go_simp⟩) trivial ?_
  simp only [AP]
  refine wpAnyH_take (i := 4) (v := .string (bstr c)) rfl (by kernel_rfl) (by kernel_rfl) (by kernel_rfl) (fun _ _ _ h => h) (Or.inl ⟨by rfl, fun w hSw => by go_simp⟩) trivial ?_
  simp only [AP]
  refine wpAnyH_take (i := 5) (v := .string (bstr Y)) rfl (by kernel_rfl) (by kernel_rfl) (by kernel_rfl) (fun _ _ _ h => h) (Or.inl ⟨by rfl, fun w hSw => by go_simp⟩) trivial ?_
  simp only [AP]
  refine wpAnyH_done (by kernel_rfl) ?_ _
  clear ex1 ex2
  go_wp2
  refine wp_region_held_drew (S := fun w' => w'.rangeAt g14 0 (kindC (4, 67, 4))) (by kernel_rfl) (show w7.drew.rangeAt g14 0 (kindC (4, 67, 4)) from range_of_row D14.out) (fun _ => ?_)
  have PT := Lib.hid PT.out.drew
  have D14 := Lib.hid (show w7.drew.heap[g14]? = _ from D14.out); have D8 := Lib.hid (show w7.drew.heap[g8]? = _ from D8.out)
  generalize w7.drew = w9 at *
  refine wpAnyH_take (i := 0) (v := .agg (kindC (4, 67, 4)).toArray) rfl (by kernel_rfl) (by kernel_rfl) (by kernel_rfl) (fun _ _ _ h => h) (yieldsIf_load_mid (by rfl) 157 _ rfl g14 0 rfl (kindC (4, 67, 4)) _ (fun w h => h) Try.underlying157 rfl (by rw [infoK]; rfl)) (range_of_row D14.out) ?_
  simp only [AP]
  refine wpAnyH_take (i := 1) (v := .string (bstr head)) rfl (by kernel_rfl) (by kernel_rfl) (by kernel_rfl) (fun _ _ _ h => h) (Or.inl ⟨by rfl, fun w hSw => by go_simp⟩) (range_of_row D14.out) ?_
  simp only [AP]
  refine wpAnyH_take (i := 2) (v := .string (bstr c)) rfl (by kernel_rfl) (by kernel_rfl) (by kernel_rfl) (fun _ _ _ h => h) (Or.inl ⟨by rfl, fun w hSw => by go_simp⟩) (range_of_row D14.out) ?_
  simp only [AP]
  refine wpAnyH_take (i := 3) (v := .string (bstr msg)) rfl (by kernel_rfl) (by kernel_rfl) (by kernel_rfl) (fun _ _ _ h => h) (Or.inl ⟨by rfl, fun w hSw => by go_simp⟩) (range_of_row D14.out) ?_
  simp only [AP]
  refine wpAnyH_take (i := 4) (v := .string (bstr CM)) rfl (by kernel_rfl) (by kernel_rfl) (by kernel_rfl) (fun _ _ _ h => h) (Or.inl ⟨by rfl, fun w hSw => by go_simp⟩) (range_of_row D14.out) ?_
  simp only [AP]
  refine wpAnyH_take (i := 8) (v := .int .i64 0) rfl (by kernel_rfl) (by kernel_rfl) (by kernel_rfl) (fun _ _ _ h => h) (Or.inl ⟨by rfl, fun w hSw => by go_simp⟩) (range_of_row D14.out) ?_
  simp only [AP]
  refine wpAnyH_step (i := 5) (by kernel_rfl) rfl fun K hK => ?_
  go_simp
  refine (HH2.out _).mono ?_
  rintro e wa ⟨rfl, ta⟩
  have D14 := Lib.hid (ta.obj D14.out (fun e => e)); have D8 := Lib.hid (ta.obj D8.out (fun e => e)); have PT := Lib.hid (PT.out.pure ta)
  refine hK.out _ _ (range_of_row D14.out) ?_
  clear hK K ta HH2
  try simp only [AP]
  refine wpAnyH_step (i := 6) (by kernel_rfl) rfl fun K hK => ?_
  go_simp
  refine (HDG.out _).mono ?_
  rintro e wb ⟨r, rfl, hr, tb⟩
  obtain ⟨ra, rc, rfl, _⟩ := ownsRow_shape hr
  obtain ⟨gd, rfl⟩ : ∃ gd, ra = some ⟨gd, 0, none⟩ := by
    rcases hr.2 with ⟨_, h0⟩ | ⟨g, cap, cur, e, _⟩
    · have := HPP.out; omega
    · simp only [Value.slice.injEq] at e
      exact ⟨g, e.1⟩
  have hrg : wb.rangeAt gd 0 (intsN DL) := fun j u hj => by
    have := hr.cells (g := gd) rfl j u hj
    rwa [Addr.add_mid] at this
  have D14 := Lib.hid (tb.obj D14.out (fun e => e)); have D8 := Lib.hid (tb.obj D8.out (fun e => e)); have PT := Lib.hid (PT.out.pure tb); have HR := Lib.hid hrg
  refine hK.out _ _ (range_of_row D14.out) ?_
  clear hK K tb HDG hr hrg
  try simp only [AP]
  refine wpAnyH_take (i := 7) (v := .int .i64 (pp : Int)) rfl (by kernel_rfl) (by kernel_rfl) (by kernel_rfl) (fun _ _ _ h => h) (Or.inl ⟨by rfl, fun w hSw => by go_simp⟩) (range_of_row D14.out) ?_
  simp only [AP]
  refine wpAnyH_done (by kernel_rfl) ?_ _
  go_wp2
  go_loopw [18, 19, 20, 61] (fun all _ _ i wr => ∃ k : Nat, k ≤ pp ∧ all = .string (bstr (chainsV head (fun i => DL.getD i 0) (fun i => 2 ^ 4 - 1 - DL.getD i 0) (fun i => (sign.drop (36 + 32 * i)).take 32) k)) ∧ i = .int .i64 (k : Int) ∧ Hid (wr.rangeAt gd 0 (intsN DL)) ∧ Hid (wr.heap[g14]? = some (.cells (kindC (4, 67, 4)).toArray 157 (0, 0))) ∧ Hid (wr.heap[g8]? = some (.cells X.toArray 62 (0, 0))) ∧ Hid (Pure w wr)) (fun _ _ _ i _ => pp - (intOf i).toNat)
  case atStart => exact ⟨0, by omega, rfl, rfl, HR, D14, D8, PT⟩
  case round =>
    obtain ⟨k, hk, rfl, rfl, HRG, HD14, HD8, HP⟩ := hrel
    by_cases hlt : k < pp
    · have q1 : (k : Int) < pp := by omega
      have i1 : IntKind.i64.wrap ((k : Int) + 1) = ((k + 1 : Nat) : Int) := by rw [IntWalk.i64_in _ (by omega)]; omega
      have hkl := chainsV_length head (fun i => DL.getD i 0) (fun i => 2 ^ 4 - 1 - DL.getD i 0) (fun i => (sign.drop (36 + 32 * i)).take 32) k (fun i hi => HXL.out i (by omega))
      have hkD : k < DL.length := by have := HDL.out.1; omega
      have hcell : wr.cell? ⟨gd, 0 + k, none⟩ = some (.int .i64 ((DL.getD k 0 : Nat) : Int)) := HRG.out k _ (by simp [intsN, List.getD, hkD])
      rw [Nat.zero_add] at hcell
      have hdk : DL.getD k 0 < 16 := by
        have := HDL.out.2 (DL.getD k 0) (by rw [List.getD_eq_getElem?_getD, List.getElem?_eq_getElem hkD]; simp)
        omega
      have hnext : chainsV head (fun i => DL.getD i 0) (fun i => 2 ^ 4 - 1 - DL.getD i 0) (fun i => (sign.drop (36 + 32 * i)).take 32) (k + 1) = chainsV head (fun i => DL.getD i 0) (fun i => 2 ^ 4 - 1 - DL.getD i 0) (fun i => (sign.drop (36 + 32 * i)).take 32) k ++ stepsV head k (DL.getD k 0) (2 ^ 4 - 1 - DL.getD k 0) ((sign.drop (36 + 32 * k)).take 32) := rfl
      have hex := HEX.out k hlt
      have hx32 := HXL.out k hlt
      obtain ⟨x, hx⟩ : ∃ x, x = (sign.drop (36 + 32 * k)).take 32 := ⟨_, rfl⟩
      rw [← hx] at hnext hex hx32
      have hwk := fun W => walk_any W head k (DL.getD k 0) (15 - DL.getD k 0) x (by omega) (by omega) hx32
      have hyl : (stepsV head k (DL.getD k 0) (2 ^ 4 - 1 - DL.getD k 0) x).length = 32 := stepsV_length _ _ _ _ _ hx32
      generalize DL.getD k 0 = dk at hcell hdk hnext hwk hyl
      rw [show dk + (15 - dk) = 15 from by omega] at hwk
      obtain ⟨A, hA⟩ : ∃ A, A = chainsV head (fun i => DL.getD i 0) (fun i => 2 ^ 4 - 1 - DL.getD i 0) (fun i => (sign.drop (36 + 32 * i)).take 32) k := ⟨_, rfl⟩
      have hAl : A.length = 32 * k := by rw [hA, hkl]
      obtain ⟨y, hy⟩ : ∃ y, y = stepsV head k dk (2 ^ 4 - 1 - dk) x := ⟨_, rfl⟩
      obtain ⟨A2, hA2⟩ : ∃ A2, A2 = A ++ y := ⟨_, rfl⟩
      have hwk : ∀ W, Calls Try.prog 102 #[.string (bstr head), .int .i64 (k : Int), .int .i64 (dk : Int), .int .i64 15, .string (bstr x)] W fun e w' => e = .returned (.string (bstr y)) ∧ Pure W w' := fun W => by rw [hy]; exact hwk W
      rw [← hA] at hnext ⊢
      rw [← hy] at hnext hyl
      rw [← hA2] at hnext
      have a5 : bstr A ++ bstr y = bstr A2 := by rw [hA2]; exact bstr_app _ _
      have z1 : (bstr A).size = 32 * k := by rw [bstr_size, hAl]
      have z2 : (bstr y).size = 32 := by rw [bstr_size, hyl]
      have n2 : ¬ (9223372036854775807 < 32 * k + 32) := by omega
      obtain ⟨ka, hka⟩ : ∃ ka, ka = 32 * k := ⟨_, rfl⟩
      obtain ⟨kb, hkb⟩ : ∃ kb, kb = 32 * (k + 1) := ⟨_, rfl⟩
      obtain ⟨k1, hk1⟩ : ∃ k1, k1 = k + 1 := ⟨_, rfl⟩
      rw [← hka, ← hkb] at hex
      have i2 : IntKind.i64.wrap ((k : Int) * 32) = (ka : Int) := by rw [IntWalk.i64_in _ (by omega)]; omega
      have i3 : IntKind.i64.wrap ((k : Int) + 1) = (k1 : Int) := by rw [IntWalk.i64_in _ (by omega)]; omega
      have i4 : IntKind.i64.wrap ((k1 : Int) * 32) = (kb : Int) := by rw [IntWalk.i64_in _ (by omega)]; omega
      have j1 : (ka : Int) ≤ kb := by omega
      have j2 : (kb : Int) ≤ 32 * (pp : Int) := by omega
      have j3 : (0 : Int) ≤ ka := by omega
      have y1 : IntKind.i64.wrap (ka : Int) = ka := IntWalk.i64_in _ (by omega)
      have y2 : IntKind.i64.wrap (k1 : Int) = k1 := IntWalk.i64_in _ (by omega)
      have y3 : IntKind.i64.wrap (kb : Int) = kb := IntWalk.i64_in _ (by omega)
      have j4 : (k : Int) * 32 = (ka : Int) := by omega
      have j5 : (k : Int) + 1 = (k1 : Int) := by omega
      have j6 : (k1 : Int) * 32 = (kb : Int) := by omega
      have HW := Lib.hid hwk; have HNX := Lib.hid hnext; have HK1 := Lib.hid hk1
      have k0 : wr.cell? ⟨g14, 0, none⟩ = some (.int .i64 4) := by rw [cell_of_row wr g14 0 _ _ _ HD14.out]; rfl
      have x2 : IntKind.i64.wrap 16 = 16 := IntWalk.i64_in _ (by omega)
      have x3 : IntKind.i64.wrap 15 = 15 := IntWalk.i64_in _ (by omega)
      clear hwk hnext hyl hkl hA hy hA2 hAl hkD hx hx32 hka hkb hk1 i1
      go_wp2_with fail
      refine wp_region_held_drew (S := fun w' => w'.cell? ⟨g14, 0, none⟩ = some (.int .i64 4)) (by kernel_rfl) (show wr.drew.cell? ⟨g14, 0, none⟩ = some (.int .i64 4) from k0) (fun hHeld => ?_)
      have HS := Lib.hid hHeld
      have HP := Lib.hid HP.out.drew
      have HD14 := Lib.hid (show wr.drew.heap[g14]? = _ from HD14.out); have HD8 := Lib.hid (show wr.drew.heap[g8]? = _ from HD8.out); have HRG := Lib.hid (show wr.drew.rangeAt gd 0 (intsN DL) from HRG.out)
      clear hHeld k0 hcell
      generalize wr.drew = wr at *
      refine wpAnyH_take (i := 0) (v := .string (bstr A)) rfl (by kernel_rfl) (by kernel_rfl) (by kernel_rfl) (fun _ _ _ h => h) (Or.inl ⟨by rfl, fun w hSw => by go_simp⟩) HS.out ?_
      simp only [AP]
      refine wpAnyH_take (i := 1) (v := .string (bstr head)) rfl (by kernel_rfl) (by kernel_rfl) (by kernel_rfl) (fun _ _ _ h => h) (Or.inl ⟨by rfl, fun w hSw => by go_simp⟩) HS.out ?_
      simp only [AP]
      refine wpAnyH_take (i := 2) (v := .int .i64 (k : Int)) rfl (by kernel_rfl) (by kernel_rfl) (by kernel_rfl) (fun _ _ _ h => h) (Or.inl ⟨by rfl, fun w hSw => by go_simp⟩) HS.out ?_
      simp only [AP]
      refine wpAnyH_take (i := 3) (v := .int .i64 (dk : Int)) rfl (by kernel_rfl) (by kernel_rfl) (by kernel_rfl) (fun _ _ _ h => h) (Or.inl ⟨by rfl, fun w hSw => by go_simp⟩) HS.out ?_
      simp only [AP]
      refine wpAnyH_take (i := 4) (v := .pointer (some ⟨g14, 0, none⟩)) rfl (by kernel_rfl) (by kernel_rfl) (by kernel_rfl) (fun _ _ _ h => h) (Or.inl ⟨by rfl, fun w hSw => by go_simp⟩) HS.out ?_
      simp only [AP]
      refine wpAnyH_take (i := 5) (v := .int .i64 4) rfl (by kernel_rfl) (by kernel_rfl) (by kernel_rfl) (fun _ _ _ h => h) (Or.inl ⟨by rfl, fun w hSw => by go_simp⟩) HS.out ?_
      simp only [AP]
      refine wpAnyH_take (i := 6) (v := .int .i64 16) rfl (by kernel_rfl) (by kernel_rfl) (by kernel_rfl) (fun _ _ _ h => h) (Or.inl ⟨by rfl, fun w hSw => by go_simp⟩) HS.out ?_
      simp only [AP]
      refine wpAnyH_take (i := 7) (v := .int .i64 15) rfl (by kernel_rfl) (by kernel_rfl) (by kernel_rfl) (fun _ _ _ h => h) (Or.inl ⟨by rfl, fun w hSw => by go_simp⟩) HS.out ?_
      simp only [AP]
      refine wpAnyH_take (i := 8) (v := .string (bstr Y)) rfl (by kernel_rfl) (by kernel_rfl) (by kernel_rfl) (fun _ _ _ h => h) (Or.inl ⟨by rfl, fun w hSw => by go_simp⟩) HS.out ?_
      simp only [AP]
      refine wpAnyH_take (i := 9) (v := .int .i64 (k : Int)) rfl (by kernel_rfl) (by kernel_rfl) (by kernel_rfl) (fun _ _ _ h => h) (Or.inl ⟨by rfl, fun w hSw => by go_simp⟩) HS.out ?_
      simp only [AP]
      refine wpAnyH_take (i := 10) (v := .int .i64 (ka : Int)) rfl (by kernel_rfl) (by kernel_rfl) (by kernel_rfl) (fun _ _ _ h => h) (Or.inl ⟨by rfl, fun w hSw => by go_simp⟩) HS.out ?_
      simp only [AP]
      refine wpAnyH_take (i := 11) (v := .int .i64 (k : Int)) rfl (by kernel_rfl) (by kernel_rfl) (by kernel_rfl) (fun _ _ _ h => h) (Or.inl ⟨by rfl, fun w hSw => by go_simp⟩) HS.out ?_
      simp only [AP]
      refine wpAnyH_take (i := 12) (v := .int .i64 (k1 : Int)) rfl (by kernel_rfl) (by kernel_rfl) (by kernel_rfl) (fun _ _ _ h => h) (Or.inl ⟨by rfl, fun w hSw => by go_simp⟩) HS.out ?_
      simp only [AP]
      refine wpAnyH_take (i := 13) (v := .int .i64 (kb : Int)) rfl (by kernel_rfl) (by kernel_rfl) (by kernel_rfl) (fun _ _ _ h => h) (Or.inl ⟨by rfl, fun w hSw => by go_simp⟩) HS.out ?_
      simp only [AP]
      refine wpAnyH_take (i := 14) (v := .string (bstr x)) rfl (by kernel_rfl) (by kernel_rfl) (by kernel_rfl) (fun _ _ _ h => h) (Or.inl ⟨by rfl, fun w hSw => by go_simp⟩) HS.out ?_
      simp only [AP]
      refine wpAnyH_step (i := 15) (by kernel_rfl) rfl fun K hK => ?_
      go_simp
      refine (HW.out _).mono ?_
      rintro e w7 ⟨rfl, t7⟩
      have HP7 := Lib.hid (HP.out.pure t7); have HD147 := Lib.hid (t7.obj HD14.out (fun e => e)); have HD87 := Lib.hid (t7.obj HD8.out (fun e => e)); have HRG7 := Lib.hid (t7.range HRG.out (fun e => e)); have HS7 := Lib.hid (t7.cell HS.out (fun e => e))
      refine hK.out _ _ HS7.out ?_
      clear hK K t7 HP HD14 HD8 HRG HS
      have HS := Lib.hid HS7.out
      try simp only [AP]
      refine wpAnyH_take (i := 16) (v := .string (bstr A2)) rfl (by kernel_rfl) (by kernel_rfl) (by kernel_rfl) (fun _ _ _ h => h) (Or.inl ⟨by rfl, fun w hSw => by go_simp⟩) HS.out ?_
      simp only [AP]
      refine wpAnyH_take (i := 17) (v := .string (bstr A2)) rfl (by kernel_rfl) (by kernel_rfl) (by kernel_rfl) (fun _ _ _ h => h) (Or.inl ⟨by rfl, fun w hSw => by go_simp⟩) HS.out ?_
      simp only [AP]
      refine wpAnyH_done (by kernel_rfl) ?_ _
      go_wp2
      exact ⟨⟨k + 1, by omega, by rw [HNX.out], by first | rfl | trivial | (have := HK1.out; rw [this]), HRG7, HD147, HD87, HP7⟩, by have := HK1.out; simp [intOf]; omega⟩
    · have q1 : ¬ ((k : Int) < pp) := by omega
      obtain rfl : k = pp := by omega
      rw [← HALL.out]
      go_wp2_with fail
      refine (HHA.out _).mono ?_
      rintro e w6 ⟨rfl, t6⟩
      have HP6 := Lib.hid (HP.out.pure t6); have HD86 := Lib.hid (t6.obj HD8.out (fun e => e))
      clear t6 HP HD8 HD14
      have hcv := Lib.run_convert_string_bytes (P := Try.prog) w6 9 65 5 (bstr PUB) Try.underlying9 Try.underlying65 Try.underlying5
      rw [zp] at hcv
      generalize grownCap w6 32 0 5 = cap at hcv
      have hB : Pure w6 (Lib.bytesWorld w6 5 (bstr PUB)) := bytesWorld_turn (Turn.refl _ _) _ _
      have hC : (Lib.bytesWorld w6 5 (bstr PUB)).rangeAt w6.heap.size 0 (u8s PUB) := by
        intro j v hv
        obtain ⟨hj, rfl⟩ := List.getElem?_eq_some_iff.1 hv
        rw [u8s_length] at hj
        rw [Nat.zero_add, Lib.bytesWorld_cell w6 _ _ j (by rw [bstr_size]; exact hj), bstr_data]
        simp [u8s, u8, List.getD, hj]
      have HP7 := Lib.hid (HP6.out.pure hB); have HD87 := Lib.hid (hB.obj HD86.out (fun e => e))
      generalize Lib.bytesWorld w6 5 (bstr PUB) = w7 at hcv hB hC HP7 HD87
      have hap := arrayAt_ok (P := Try.prog) w7 62 5 32 cap ⟨w6.heap.size, 0, none⟩ Try.underlying62
      have HC := Lib.hid hC
      clear hB hC HP6 HD86
      go_wp2_with (first | (refine wpList_load_mid rfl 62 _ rfl w6.heap.size 0 rfl (u8s PUB) _ HC.out Try.underlying62 rfl (info28_l hPl) ?_) | (refine wpList_store_blk rfl 62 _ _ rfl g8 _ (u8s PUB) _ rfl rfl HD87.out (size28 hXl hPl) (info28_l hPl) (u8s_one _) ?_))
      intro w8 c8 t8 _
      have hO := Lib.hid c8
      have PF := Lib.hid (HP7.out.trans t8 fun x hx e => by omega : Pure w w8)
      clear c8 t8 hcv hap
      go_wp2
      exact bodyPost_ret (v := .tuple #[hv PUB, .int .i64 0]) (results_cell2 Try.results50 _ _ g8 _ (u8s PUB).toArray _ _ rfl hO.out Try.underlying62 rfl (info28_a hPl)) rfl ⟨rfl, PF.out⟩

set_option maxRecDepth 100000 in
set_option maxHeartbeats 4000000 in
theorem Candidate_4 (w : World) (id msg sign : List UInt8) (q : Nat) (hid : id.length = 16) (hq : q ≤ 4294967295) (hm : msg.length ≤ 65536) (hsl : sign.length = 1124) (hsk : kindSV sign = (4, true)) :
    Calls Try.prog 50 #[.string (bstr id), .int .i64 (q : Int), .string (bstr msg), .string (bstr sign)] w fun e w' => e = .returned (.tuple #[hv (otsCandV 8 34 0 (placeV id q) msg sign), .int .i64 0]) ∧ Pure w w' := by
  obtain ⟨X, hXl, HZ⟩ := ex28
  have hkd := fun W => Kind_any W sign (by omega)
  rw [hsk] at hkd
  have hko : ∀ W, Calls Try.prog 99 #[.int .i64 4] W fun e w' => e = .returned (.tuple #[.agg (kindC (8, 34, 0)).toArray, .bool true]) ∧ Pure W w' := fun W => kindOf_any W 4
  have hpo := fun W => placeOf_nat id q W hid hq
  have hhl : (placeV id q).length = 20 := by rw [placeV, List.length_append, beB_length, hid]
  generalize placeV id q = head at hpo hhl ⊢
  obtain ⟨pp, hpp⟩ : ∃ pp : Nat, pp = 34 := ⟨_, rfl⟩
  obtain ⟨c, hc⟩ : ∃ c, c = (sign.drop 4).take 32 := ⟨_, rfl⟩
  have hcl : c.length = 32 := by rw [hc]; simp; omega
  obtain ⟨Y, hY⟩ : ∃ Y, Y = sign.drop 36 := ⟨_, rfl⟩
  have hYl : Y.length = 32 * pp := by rw [hY, List.length_drop]; omega
  have ex1 : (bstr sign).extract 4 36 = bstr c := by rw [bstr_ext, hc, List.drop_take]
  have ex2 : (bstr sign).extract 36 sign.length = bstr Y := by rw [bstr_ext, hY, List.take_length]
  have ex3 : ∀ k, k < pp → (bstr Y).extract (32 * k) (32 * (k + 1)) = bstr ((sign.drop (36 + 32 * k)).take 32) := fun k _ => by
    rw [bstr_ext, hY, List.drop_take, List.drop_drop]
    congr 2
    omega
  have hxl : ∀ k, k < pp → ((sign.drop (36 + 32 * k)).take 32).length = 32 := fun k hk => by simp; omega
  obtain ⟨CM, hCM⟩ : ∃ CM, CM = c ++ msg := ⟨_, rfl⟩
  have hCMl : CM.length = 32 + msg.length := by rw [hCM, List.length_append, hcl]
  have a2 : bstr c ++ bstr msg = bstr CM := by rw [hCM]; exact bstr_app _ _
  have zc : (bstr c).size = 32 := by rw [bstr_size, hcl]
  have zm := bstr_size msg
  have zy : (bstr Y).size = 32 * pp := by rw [bstr_size, hYl]
  have zsg := bstr_size sign
  have n1 : ¬ (9223372036854775807 < 32 + msg.length) := by omega
  have hh2 := fun W => hash_any W head CM 33153 (by omega) (by omega)
  have hQ : otsQV head c msg = shaV (head ++ beB 33153 2 ++ CM) := by rw [otsQV, hCM]
  rw [← hQ] at hh2
  have hQl : (otsQV head c msg).length = 32 := shaV_length _
  have hcan : otsCandV 8 pp 0 head msg sign = shaV (head ++ beB 32896 2 ++ chainsV head (fun i => (digitsV 8 pp 0 (otsQV head c msg)).getD i 0) (fun i => 2 ^ 8 - 1 - (digitsV 8 pp 0 (otsQV head c msg)).getD i 0) (fun i => (sign.drop (36 + 32 * i)).take 32) pp) := by rw [otsCandV, hc]
  generalize otsQV head c msg = Q at hh2 hQl hcan
  have hdg := fun W => digits_8 W Q hQl
  rw [← hpp] at hdg ⊢
  have hdl := digitsV_length 8 pp 0 Q (by omega)
  have hdlt := digitsV_lt 8 pp 0 Q
  generalize digitsV 8 pp 0 Q = DL at hdg hdl hdlt hcan
  obtain ⟨ALL, hALL⟩ : ∃ ALL, ALL = chainsV head (fun i => DL.getD i 0) (fun i => 2 ^ 8 - 1 - DL.getD i 0) (fun i => (sign.drop (36 + 32 * i)).take 32) pp := ⟨_, rfl⟩
  have hAl : ALL.length = 32 * pp := by rw [hALL, chainsV_length _ _ _ _ _ (fun i hi => hxl i hi)]
  rw [← hALL] at hcan
  have hha := fun W => hash_any W head ALL 32896 (by omega) (by omega)
  rw [← hcan] at hha
  have hPl : (otsCandV 8 pp 0 head msg sign).length = 32 := by rw [hcan]; exact shaV_length _
  clear hcan
  generalize otsCandV 8 pp 0 head msg sign = PUB at hha hPl ⊢
  have zp : (bstr PUB).size = 32 := by rw [bstr_size, hPl]
  have HKD := Lib.hid hkd; have HKO := Lib.hid hko; have HPO := Lib.hid hpo; have HH2 := Lib.hid hh2; have HDG := Lib.hid hdg; have HHA := Lib.hid hha; have HALL := Lib.hid hALL; have HDL := Lib.hid (And.intro hdl hdlt); have HPP := Lib.hid hpp; have HEX := Lib.hid ex3; have HXL := Lib.hid hxl
  have hp1 : pp ≤ 67 := by omega
  have r1 : (36 : Int) ≤ sign.length := by omega
  clear hkd hko hpo hh2 hdg hha hALL hdl hdlt hpp ex3 hxl hc hY hCM hCMl hQ hQl hAl hcl hsk
  obtain ⟨sl, hsl2⟩ : ∃ sl, sl = sign.length := ⟨_, rfl⟩
  rw [← hsl2] at zsg ex2 r1 hsl
  have HSL := Lib.hid hsl
  clear hsl2 hsl
  go_enter Try.func50, Try.ntmps50
  go_wp2_with (refine wpList_allocZ rfl 62 rfl X HZ.out ?_)
  intro g8 w1 e1 c1 t1 s1
  have l8 : w.heap.size ≤ g8 := by omega
  clear e1
  go_wp2_with fail
  refine (HKD.out _).mono ?_
  rintro e w2 ⟨rfl, t2⟩
  have D8 := Lib.hid (t2.obj c1 (fun e => e)); have PT := Lib.hid (t1.pure t2)
  have s2 : g8 < w2.heap.size := by have := t2.size; omega
  clear c1 t1 s1 t2 HKD
  go_wp2_with fail
  refine (HPO.out _).mono ?_
  rintro e w3 ⟨rfl, t3⟩
  have D8 := Lib.hid (t3.obj D8.out (fun e => e)); have PT := Lib.hid (PT.out.pure t3)
  have s3 : g8 < w3.heap.size := by have := t3.size; omega
  clear t3 HPO s2
  go_wp2_with fail
  refine (HKO.out _).mono ?_
  rintro e w4 ⟨rfl, t4⟩
  have D8 := Lib.hid (t4.obj D8.out (fun e => e)); have PT := Lib.hid (PT.out.pure t4)
  have s4 : g8 < w4.heap.size := by have := t4.size; omega
  clear t4 HKO s3
  go_wp2_with (refine wpList_allocZ rfl 157 rfl (kindC (0, 0, 0)) zeroK ?_)
  intro g14 w5 e5 c5 t5 s5
  have l14 : g8 < g14 := by omega
  clear e5
  go_wp2_with (refine wpList_store_blk rfl 157 _ _ rfl g14 _ (kindC (8, 34, 0)) _ rfl rfl c5 rfl (by rw [infoK]; rfl) (by simp [Value.oneCell']) ?_)
  intro w6 c6 t6 s6
  have D14 := Lib.hid c6; have D8 := Lib.hid (t6.obj (t5.obj D8.out (fun e => e)) (by omega)); have PT := Lib.hid ((PT.out.pure t5).trans t6 fun x hx e => by omega : Pure w w6)
  clear c5 t5 s5 c6 t6 s6 s4
  go_wp2_with fail
  refine wp_region_held_drew (S := fun _ => True) (by kernel_rfl) trivial (fun _ => ?_)
  have PT := Lib.hid PT.out.drew
  have D14 := Lib.hid (show w6.drew.heap[g14]? = _ from D14.out); have D8 := Lib.hid (show w6.drew.heap[g8]? = _ from D8.out)
  generalize w6.drew = w7 at *
  refine wpAnyH_take (i := 0) (v := .string (bstr sign)) rfl (by kernel_rfl) (by kernel_rfl) (by kernel_rfl) (fun _ _ _ h => h) (Or.inl ⟨by rfl, fun w hSw => by go_simp⟩) trivial ?_
  simp only [AP]
  refine wpAnyH_take (i := 1) (v := .string (bstr c)) rfl (by kernel_rfl) (by kernel_rfl) (by kernel_rfl) (fun _ _ _ h => h) (Or.inl ⟨by rfl, fun w hSw => by go_simp⟩) trivial ?_
  simp only [AP]
  refine wpAnyH_take (i := 2) (v := .string (bstr sign)) rfl (by kernel_rfl) (by kernel_rfl) (by kernel_rfl) (fun _ _ _ h => h) (Or.inl ⟨by rfl, fun w hSw => by go_simp⟩) trivial ?_
  simp only [AP]
  refine wpAnyH_take (i := 3) (v := .string (bstr Y)) rfl (by kernel_rfl) (by kernel_rfl) (by kernel_rfl) (fun _ _ _ h => h) (Or.inl ⟨by rfl, fun w hSw => by go_simp⟩) trivial ?_
  simp only [AP]
  refine wpAnyH_take (i := 4) (v := .string (bstr c)) rfl (by kernel_rfl) (by kernel_rfl) (by kernel_rfl) (fun _ _ _ h => h) (Or.inl ⟨by rfl, fun w hSw => by go_simp⟩) trivial ?_
  simp only [AP]
  refine wpAnyH_take (i := 5) (v := .string (bstr Y)) rfl (by kernel_rfl) (by kernel_rfl) (by kernel_rfl) (fun _ _ _ h => h) (Or.inl ⟨by rfl, fun w hSw => by go_simp⟩) trivial ?_
  simp only [AP]
  refine wpAnyH_done (by kernel_rfl) ?_ _
  clear ex1 ex2
  go_wp2
  refine wp_region_held_drew (S := fun w' => w'.rangeAt g14 0 (kindC (8, 34, 0))) (by kernel_rfl) (show w7.drew.rangeAt g14 0 (kindC (8, 34, 0)) from range_of_row D14.out) (fun _ => ?_)
  have PT := Lib.hid PT.out.drew
  have D14 := Lib.hid (show w7.drew.heap[g14]? = _ from D14.out); have D8 := Lib.hid (show w7.drew.heap[g8]? = _ from D8.out)
  generalize w7.drew = w9 at *
  refine wpAnyH_take (i := 0) (v := .agg (kindC (8, 34, 0)).toArray) rfl (by kernel_rfl) (by kernel_rfl) (by kernel_rfl) (fun _ _ _ h => h) (yieldsIf_load_mid (by rfl) 157 _ rfl g14 0 rfl (kindC (8, 34, 0)) _ (fun w h => h) Try.underlying157 rfl (by rw [infoK]; rfl)) (range_of_row D14.out) ?_
  simp only [AP]
  refine wpAnyH_take (i := 1) (v := .string (bstr head)) rfl (by kernel_rfl) (by kernel_rfl) (by kernel_rfl) (fun _ _ _ h => h) (Or.inl ⟨by rfl, fun w hSw => by go_simp⟩) (range_of_row D14.out) ?_
  simp only [AP]
  refine wpAnyH_take (i := 2) (v := .string (bstr c)) rfl (by kernel_rfl) (by kernel_rfl) (by kernel_rfl) (fun _ _ _ h => h) (Or.inl ⟨by rfl, fun w hSw => by go_simp⟩) (range_of_row D14.out) ?_
  simp only [AP]
  refine wpAnyH_take (i := 3) (v := .string (bstr msg)) rfl (by kernel_rfl) (by kernel_rfl) (by kernel_rfl) (fun _ _ _ h => h) (Or.inl ⟨by rfl, fun w hSw => by go_simp⟩) (range_of_row D14.out) ?_
  simp only [AP]
  refine wpAnyH_take (i := 4) (v := .string (bstr CM)) rfl (by kernel_rfl) (by kernel_rfl) (by kernel_rfl) (fun _ _ _ h => h) (Or.inl ⟨by rfl, fun w hSw => by go_simp⟩) (range_of_row D14.out) ?_
  simp only [AP]
  refine wpAnyH_take (i := 8) (v := .int .i64 0) rfl (by kernel_rfl) (by kernel_rfl) (by kernel_rfl) (fun _ _ _ h => h) (Or.inl ⟨by rfl, fun w hSw => by go_simp⟩) (range_of_row D14.out) ?_
  simp only [AP]
  refine wpAnyH_step (i := 5) (by kernel_rfl) rfl fun K hK => ?_
  go_simp
  refine (HH2.out _).mono ?_
  rintro e wa ⟨rfl, ta⟩
  have D14 := Lib.hid (ta.obj D14.out (fun e => e)); have D8 := Lib.hid (ta.obj D8.out (fun e => e)); have PT := Lib.hid (PT.out.pure ta)
  refine hK.out _ _ (range_of_row D14.out) ?_
  clear hK K ta HH2
  try simp only [AP]
  refine wpAnyH_step (i := 6) (by kernel_rfl) rfl fun K hK => ?_
  go_simp
  refine (HDG.out _).mono ?_
  rintro e wb ⟨r, rfl, hr, tb⟩
  obtain ⟨ra, rc, rfl, _⟩ := ownsRow_shape hr
  obtain ⟨gd, rfl⟩ : ∃ gd, ra = some ⟨gd, 0, none⟩ := by
    rcases hr.2 with ⟨_, h0⟩ | ⟨g, cap, cur, e, _⟩
    · have := HPP.out; omega
    · simp only [Value.slice.injEq] at e
      exact ⟨g, e.1⟩
  have hrg : wb.rangeAt gd 0 (intsN DL) := fun j u hj => by
    have := hr.cells (g := gd) rfl j u hj
    rwa [Addr.add_mid] at this
  have D14 := Lib.hid (tb.obj D14.out (fun e => e)); have D8 := Lib.hid (tb.obj D8.out (fun e => e)); have PT := Lib.hid (PT.out.pure tb); have HR := Lib.hid hrg
  refine hK.out _ _ (range_of_row D14.out) ?_
  clear hK K tb HDG hr hrg
  try simp only [AP]
  refine wpAnyH_take (i := 7) (v := .int .i64 (pp : Int)) rfl (by kernel_rfl) (by kernel_rfl) (by kernel_rfl) (fun _ _ _ h => h) (Or.inl ⟨by rfl, fun w hSw => by go_simp⟩) (range_of_row D14.out) ?_
  simp only [AP]
  refine wpAnyH_done (by kernel_rfl) ?_ _
  go_wp2
  go_loopw [18, 19, 20, 61] (fun all _ _ i wr => ∃ k : Nat, k ≤ pp ∧ all = .string (bstr (chainsV head (fun i => DL.getD i 0) (fun i => 2 ^ 8 - 1 - DL.getD i 0) (fun i => (sign.drop (36 + 32 * i)).take 32) k)) ∧ i = .int .i64 (k : Int) ∧ Hid (wr.rangeAt gd 0 (intsN DL)) ∧ Hid (wr.heap[g14]? = some (.cells (kindC (8, 34, 0)).toArray 157 (0, 0))) ∧ Hid (wr.heap[g8]? = some (.cells X.toArray 62 (0, 0))) ∧ Hid (Pure w wr)) (fun _ _ _ i _ => pp - (intOf i).toNat)
  case atStart => exact ⟨0, by omega, rfl, rfl, HR, D14, D8, PT⟩
  case round =>
    obtain ⟨k, hk, rfl, rfl, HRG, HD14, HD8, HP⟩ := hrel
    by_cases hlt : k < pp
    · have q1 : (k : Int) < pp := by omega
      have i1 : IntKind.i64.wrap ((k : Int) + 1) = ((k + 1 : Nat) : Int) := by rw [IntWalk.i64_in _ (by omega)]; omega
      have hkl := chainsV_length head (fun i => DL.getD i 0) (fun i => 2 ^ 8 - 1 - DL.getD i 0) (fun i => (sign.drop (36 + 32 * i)).take 32) k (fun i hi => HXL.out i (by omega))
      have hkD : k < DL.length := by have := HDL.out.1; omega
      have hcell : wr.cell? ⟨gd, 0 + k, none⟩ = some (.int .i64 ((DL.getD k 0 : Nat) : Int)) := HRG.out k _ (by simp [intsN, List.getD, hkD])
      rw [Nat.zero_add] at hcell
      have hdk : DL.getD k 0 < 256 := by
        have := HDL.out.2 (DL.getD k 0) (by rw [List.getD_eq_getElem?_getD, List.getElem?_eq_getElem hkD]; simp)
        omega
      have hnext : chainsV head (fun i => DL.getD i 0) (fun i => 2 ^ 8 - 1 - DL.getD i 0) (fun i => (sign.drop (36 + 32 * i)).take 32) (k + 1) = chainsV head (fun i => DL.getD i 0) (fun i => 2 ^ 8 - 1 - DL.getD i 0) (fun i => (sign.drop (36 + 32 * i)).take 32) k ++ stepsV head k (DL.getD k 0) (2 ^ 8 - 1 - DL.getD k 0) ((sign.drop (36 + 32 * k)).take 32) := rfl
      have hex := HEX.out k hlt
      have hx32 := HXL.out k hlt
      obtain ⟨x, hx⟩ : ∃ x, x = (sign.drop (36 + 32 * k)).take 32 := ⟨_, rfl⟩
      rw [← hx] at hnext hex hx32
      have hwk := fun W => walk_any W head k (DL.getD k 0) (255 - DL.getD k 0) x (by omega) (by omega) hx32
      have hyl : (stepsV head k (DL.getD k 0) (2 ^ 8 - 1 - DL.getD k 0) x).length = 32 := stepsV_length _ _ _ _ _ hx32
      generalize DL.getD k 0 = dk at hcell hdk hnext hwk hyl
      rw [show dk + (255 - dk) = 255 from by omega] at hwk
      obtain ⟨A, hA⟩ : ∃ A, A = chainsV head (fun i => DL.getD i 0) (fun i => 2 ^ 8 - 1 - DL.getD i 0) (fun i => (sign.drop (36 + 32 * i)).take 32) k := ⟨_, rfl⟩
      have hAl : A.length = 32 * k := by rw [hA, hkl]
      obtain ⟨y, hy⟩ : ∃ y, y = stepsV head k dk (2 ^ 8 - 1 - dk) x := ⟨_, rfl⟩
      obtain ⟨A2, hA2⟩ : ∃ A2, A2 = A ++ y := ⟨_, rfl⟩
      have hwk : ∀ W, Calls Try.prog 102 #[.string (bstr head), .int .i64 (k : Int), .int .i64 (dk : Int), .int .i64 255, .string (bstr x)] W fun e w' => e = .returned (.string (bstr y)) ∧ Pure W w' := fun W => by rw [hy]; exact hwk W
      rw [← hA] at hnext ⊢
      rw [← hy] at hnext hyl
      rw [← hA2] at hnext
      have a5 : bstr A ++ bstr y = bstr A2 := by rw [hA2]; exact bstr_app _ _
      have z1 : (bstr A).size = 32 * k := by rw [bstr_size, hAl]
      have z2 : (bstr y).size = 32 := by rw [bstr_size, hyl]
      have n2 : ¬ (9223372036854775807 < 32 * k + 32) := by omega
      obtain ⟨ka, hka⟩ : ∃ ka, ka = 32 * k := ⟨_, rfl⟩
      obtain ⟨kb, hkb⟩ : ∃ kb, kb = 32 * (k + 1) := ⟨_, rfl⟩
      obtain ⟨k1, hk1⟩ : ∃ k1, k1 = k + 1 := ⟨_, rfl⟩
      rw [← hka, ← hkb] at hex
      have i2 : IntKind.i64.wrap ((k : Int) * 32) = (ka : Int) := by rw [IntWalk.i64_in _ (by omega)]; omega
      have i3 : IntKind.i64.wrap ((k : Int) + 1) = (k1 : Int) := by rw [IntWalk.i64_in _ (by omega)]; omega
      have i4 : IntKind.i64.wrap ((k1 : Int) * 32) = (kb : Int) := by rw [IntWalk.i64_in _ (by omega)]; omega
      have j1 : (ka : Int) ≤ kb := by omega
      have j2 : (kb : Int) ≤ 32 * (pp : Int) := by omega
      have j3 : (0 : Int) ≤ ka := by omega
      have y1 : IntKind.i64.wrap (ka : Int) = ka := IntWalk.i64_in _ (by omega)
      have y2 : IntKind.i64.wrap (k1 : Int) = k1 := IntWalk.i64_in _ (by omega)
      have y3 : IntKind.i64.wrap (kb : Int) = kb := IntWalk.i64_in _ (by omega)
      have j4 : (k : Int) * 32 = (ka : Int) := by omega
      have j5 : (k : Int) + 1 = (k1 : Int) := by omega
      have j6 : (k1 : Int) * 32 = (kb : Int) := by omega
      have HW := Lib.hid hwk; have HNX := Lib.hid hnext; have HK1 := Lib.hid hk1
      have k0 : wr.cell? ⟨g14, 0, none⟩ = some (.int .i64 8) := by rw [cell_of_row wr g14 0 _ _ _ HD14.out]; rfl
      have x2 : IntKind.i64.wrap 256 = 256 := IntWalk.i64_in _ (by omega)
      have x3 : IntKind.i64.wrap 255 = 255 := IntWalk.i64_in _ (by omega)
      clear hwk hnext hyl hkl hA hy hA2 hAl hkD hx hx32 hka hkb hk1 i1
      go_wp2_with fail
      refine wp_region_held_drew (S := fun w' => w'.cell? ⟨g14, 0, none⟩ = some (.int .i64 8)) (by kernel_rfl) (show wr.drew.cell? ⟨g14, 0, none⟩ = some (.int .i64 8) from k0) (fun hHeld => ?_)
      have HS := Lib.hid hHeld
      have HP := Lib.hid HP.out.drew
      have HD14 := Lib.hid (show wr.drew.heap[g14]? = _ from HD14.out); have HD8 := Lib.hid (show wr.drew.heap[g8]? = _ from HD8.out); have HRG := Lib.hid (show wr.drew.rangeAt gd 0 (intsN DL) from HRG.out)
      clear hHeld k0 hcell
      generalize wr.drew = wr at *
      refine wpAnyH_take (i := 0) (v := .string (bstr A)) rfl (by kernel_rfl) (by kernel_rfl) (by kernel_rfl) (fun _ _ _ h => h) (Or.inl ⟨by rfl, fun w hSw => by go_simp⟩) HS.out ?_
      simp only [AP]
      refine wpAnyH_take (i := 1) (v := .string (bstr head)) rfl (by kernel_rfl) (by kernel_rfl) (by kernel_rfl) (fun _ _ _ h => h) (Or.inl ⟨by rfl, fun w hSw => by go_simp⟩) HS.out ?_
      simp only [AP]
      refine wpAnyH_take (i := 2) (v := .int .i64 (k : Int)) rfl (by kernel_rfl) (by kernel_rfl) (by kernel_rfl) (fun _ _ _ h => h) (Or.inl ⟨by rfl, fun w hSw => by go_simp⟩) HS.out ?_
      simp only [AP]
      refine wpAnyH_take (i := 3) (v := .int .i64 (dk : Int)) rfl (by kernel_rfl) (by kernel_rfl) (by kernel_rfl) (fun _ _ _ h => h) (Or.inl ⟨by rfl, fun w hSw => by go_simp⟩) HS.out ?_
      simp only [AP]
      refine wpAnyH_take (i := 4) (v := .pointer (some ⟨g14, 0, none⟩)) rfl (by kernel_rfl) (by kernel_rfl) (by kernel_rfl) (fun _ _ _ h => h) (Or.inl ⟨by rfl, fun w hSw => by go_simp⟩) HS.out ?_
      simp only [AP]
      refine wpAnyH_take (i := 5) (v := .int .i64 8) rfl (by kernel_rfl) (by kernel_rfl) (by kernel_rfl) (fun _ _ _ h => h) (Or.inl ⟨by rfl, fun w hSw => by go_simp⟩) HS.out ?_
      simp only [AP]
      refine wpAnyH_take (i := 6) (v := .int .i64 256) rfl (by kernel_rfl) (by kernel_rfl) (by kernel_rfl) (fun _ _ _ h => h) (Or.inl ⟨by rfl, fun w hSw => by go_simp⟩) HS.out ?_
      simp only [AP]
      refine wpAnyH_take (i := 7) (v := .int .i64 255) rfl (by kernel_rfl) (by kernel_rfl) (by kernel_rfl) (fun _ _ _ h => h) (Or.inl ⟨by rfl, fun w hSw => by go_simp⟩) HS.out ?_
      simp only [AP]
      refine wpAnyH_take (i := 8) (v := .string (bstr Y)) rfl (by kernel_rfl) (by kernel_rfl) (by kernel_rfl) (fun _ _ _ h => h) (Or.inl ⟨by rfl, fun w hSw => by go_simp⟩) HS.out ?_
      simp only [AP]
      refine wpAnyH_take (i := 9) (v := .int .i64 (k : Int)) rfl (by kernel_rfl) (by kernel_rfl) (by kernel_rfl) (fun _ _ _ h => h) (Or.inl ⟨by rfl, fun w hSw => by go_simp⟩) HS.out ?_
      simp only [AP]
      refine wpAnyH_take (i := 10) (v := .int .i64 (ka : Int)) rfl (by kernel_rfl) (by kernel_rfl) (by kernel_rfl) (fun _ _ _ h => h) (Or.inl ⟨by rfl, fun w hSw => by go_simp⟩) HS.out ?_
      simp only [AP]
      refine wpAnyH_take (i := 11) (v := .int .i64 (k : Int)) rfl (by kernel_rfl) (by kernel_rfl) (by kernel_rfl) (fun _ _ _ h => h) (Or.inl ⟨by rfl, fun w hSw => by go_simp⟩) HS.out ?_
      simp only [AP]
      refine wpAnyH_take (i := 12) (v := .int .i64 (k1 : Int)) rfl (by kernel_rfl) (by kernel_rfl) (by kernel_rfl) (fun _ _ _ h => h) (Or.inl ⟨by rfl, fun w hSw => by go_simp⟩) HS.out ?_
      simp only [AP]
      refine wpAnyH_take (i := 13) (v := .int .i64 (kb : Int)) rfl (by kernel_rfl) (by kernel_rfl) (by kernel_rfl) (fun _ _ _ h => h) (Or.inl ⟨by rfl, fun w hSw => by go_simp⟩) HS.out ?_
      simp only [AP]
      refine wpAnyH_take (i := 14) (v := .string (bstr x)) rfl (by kernel_rfl) (by kernel_rfl) (by kernel_rfl) (fun _ _ _ h => h) (Or.inl ⟨by rfl, fun w hSw => by go_simp⟩) HS.out ?_
      simp only [AP]
      refine wpAnyH_step (i := 15) (by kernel_rfl) rfl fun K hK => ?_
      go_simp
      refine (HW.out _).mono ?_
      rintro e w7 ⟨rfl, t7⟩
      have HP7 := Lib.hid (HP.out.pure t7); have HD147 := Lib.hid (t7.obj HD14.out (fun e => e)); have HD87 := Lib.hid (t7.obj HD8.out (fun e => e)); have HRG7 := Lib.hid (t7.range HRG.out (fun e => e)); have HS7 := Lib.hid (t7.cell HS.out (fun e => e))
      refine hK.out _ _ HS7.out ?_
      clear hK K t7 HP HD14 HD8 HRG HS
      have HS := Lib.hid HS7.out
      try simp only [AP]
      refine wpAnyH_take (i := 16) (v := .string (bstr A2)) rfl (by kernel_rfl) (by kernel_rfl) (by kernel_rfl) (fun _ _ _ h => h) (Or.inl ⟨by rfl, fun w hSw => by go_simp⟩) HS.out ?_
      simp only [AP]
      refine wpAnyH_take (i := 17) (v := .string (bstr A2)) rfl (by kernel_rfl) (by kernel_rfl) (by kernel_rfl) (fun _ _ _ h => h) (Or.inl ⟨by rfl, fun w hSw => by go_simp⟩) HS.out ?_
      simp only [AP]
      refine wpAnyH_done (by kernel_rfl) ?_ _
      go_wp2
      exact ⟨⟨k + 1, by omega, by rw [HNX.out], by first | rfl | trivial | (have := HK1.out; rw [this]), HRG7, HD147, HD87, HP7⟩, by have := HK1.out; simp [intOf]; omega⟩
    · have q1 : ¬ ((k : Int) < pp) := by omega
      obtain rfl : k = pp := by omega
      rw [← HALL.out]
      go_wp2_with fail
      refine (HHA.out _).mono ?_
      rintro e w6 ⟨rfl, t6⟩
      have HP6 := Lib.hid (HP.out.pure t6); have HD86 := Lib.hid (t6.obj HD8.out (fun e => e))
      clear t6 HP HD8 HD14
      have hcv := Lib.run_convert_string_bytes (P := Try.prog) w6 9 65 5 (bstr PUB) Try.underlying9 Try.underlying65 Try.underlying5
      rw [zp] at hcv
      generalize grownCap w6 32 0 5 = cap at hcv
      have hB : Pure w6 (Lib.bytesWorld w6 5 (bstr PUB)) := bytesWorld_turn (Turn.refl _ _) _ _
      have hC : (Lib.bytesWorld w6 5 (bstr PUB)).rangeAt w6.heap.size 0 (u8s PUB) := by
        intro j v hv
        obtain ⟨hj, rfl⟩ := List.getElem?_eq_some_iff.1 hv
        rw [u8s_length] at hj
        rw [Nat.zero_add, Lib.bytesWorld_cell w6 _ _ j (by rw [bstr_size]; exact hj), bstr_data]
        simp [u8s, u8, List.getD, hj]
      have HP7 := Lib.hid (HP6.out.pure hB); have HD87 := Lib.hid (hB.obj HD86.out (fun e => e))
      generalize Lib.bytesWorld w6 5 (bstr PUB) = w7 at hcv hB hC HP7 HD87
      have hap := arrayAt_ok (P := Try.prog) w7 62 5 32 cap ⟨w6.heap.size, 0, none⟩ Try.underlying62
      have HC := Lib.hid hC
      clear hB hC HP6 HD86
      go_wp2_with (first | (refine wpList_load_mid rfl 62 _ rfl w6.heap.size 0 rfl (u8s PUB) _ HC.out Try.underlying62 rfl (info28_l hPl) ?_) | (refine wpList_store_blk rfl 62 _ _ rfl g8 _ (u8s PUB) _ rfl rfl HD87.out (size28 hXl hPl) (info28_l hPl) (u8s_one _) ?_))
      intro w8 c8 t8 _
      have hO := Lib.hid c8
      have PF := Lib.hid (HP7.out.trans t8 fun x hx e => by omega : Pure w w8)
      clear c8 t8 hcv hap
      go_wp2
      exact bodyPost_ret (v := .tuple #[hv PUB, .int .i64 0]) (results_cell2 Try.results50 _ _ g8 _ (u8s PUB).toArray _ _ rfl hO.out Try.underlying62 rfl (info28_a hPl)) rfl ⟨rfl, PF.out⟩
end Go.Proofs.Ytcfbmbhkdicpfaa
