/- Chapter 4, the reference: what a signature makes. -/
import Derived.Test.YtcfbmbhkdicpfaaOtsT
namespace Go.Proofs.Ytcfbmbhkdicpfaa
open Go.RowKit

set_option maxRecDepth 100000 in
set_option maxHeartbeats 4000000 in
theorem RCandidate_3 (w : World) (id msg sign : List UInt8) (q : Nat) (hid : id.length = 16) (hq : q ≤ 4294967295) (hm : msg.length ≤ 65536) (hsl : sign.length = 2180) (hsk : kindSV sign = (3, true)) :
    Calls Try.prog 93 #[.string (bstr id), .int .i64 (q : Int), .string (bstr msg), .string (bstr sign)] w fun e w' => e = .returned (.tuple #[hv (otsCandV 4 67 4 (placeV id q) msg sign), .int .i64 0]) ∧ Pure w w' := by
  obtain ⟨X, hXl, HZ⟩ := ex28
  have hk4 : k4V sign = 3 := by
    rw [kindSV, if_neg (by omega)] at hsk
    exact congrArg Prod.fst hsk
  have hrn : ∀ W, Calls Try.prog 44 #[.string (bstr sign), .int .i64 0] W fun e w' => e = .returned (.int .i64 (rnumV sign 0)) ∧ Pure W w' := fun W => rnum_any W sign 0 (by omega) (by omega)
  have hrv : rnumV sign 0 = 3 := by rw [rnumV, if_pos (by omega), List.drop_zero, hk4]
  rw [hrv] at hrn
  have hpr : ∀ W, Calls Try.prog 91 #[.int .i64 3] W fun e w' => e = .returned (.tuple #[.int .i64 4, .int .i64 67, .int .i64 4]) ∧ w' = W := fun W => Params_any W 3
  have hmy := fun W => otsMay_any W id q
  rw [placeB_true hid hq] at hmy
  have hbe := fun W => Be_anyS q 4 W (by omega) (by omega)
  have hbl : (beB q 4).length = 4 := beB_length _ _
  have hphd : placeV id q = id ++ beB q 4 := rfl
  rw [hphd]
  generalize beB q 4 = bq at hbe hbl ⊢
  obtain ⟨head, hhead⟩ : ∃ head, head = id ++ bq := ⟨_, rfl⟩
  have headl : head.length = 16 + 4 := by rw [hhead, List.length_append]; first | rfl | omega | (simp; omega) | simp
  have ahead : bstr id ++ bstr bq = bstr head := by rw [hhead]; exact bstr_app id bq
  have zhead : (bstr head).size = 16 + 4 := by rw [bstr_size, headl]
  have nhead : ¬ (9223372036854775807 < 16 + 4) := by omega
  rw [← hhead]
  have z1 : (bstr id).size = 16 := by rw [bstr_size, hid]
  have z2 : (bstr bq).size = 4 := by rw [bstr_size, hbl]
  obtain ⟨H2, hH2⟩ : ∃ H2, H2 = head ++ [128, 128] := ⟨_, rfl⟩
  have H2l : H2.length = 20 + 2 := by rw [hH2, List.length_append]; first | rfl | omega | (simp; omega) | simp
  have aH2 : bstr head ++ (⟨#[128, 128]⟩ : ByteArray) = bstr H2 := by rw [hH2]; exact bstr_app head [128, 128]
  have zH2 : (bstr H2).size = 20 + 2 := by rw [bstr_size, H2l]
  have nH2 : ¬ (9223372036854775807 < 20 + 2) := by omega
  obtain ⟨pp, hpp⟩ : ∃ pp : Nat, pp = 67 := ⟨_, rfl⟩
  obtain ⟨c, hc⟩ : ∃ c, c = (sign.drop 4).take 32 := ⟨_, rfl⟩
  have hcl : c.length = 32 := by rw [hc]; simp; omega
  have ex1 : (bstr sign).extract 4 36 = bstr c := by rw [bstr_ext, hc, List.drop_take]
  have hex : ∀ k, k < pp → (bstr sign).extract (36 + 32 * k) (68 + 32 * k) = bstr ((sign.drop (36 + 32 * k)).take 32) := fun k _ => by
    rw [bstr_ext, List.drop_take]
    congr 2
    omega
  have hxl : ∀ k, k < pp → ((sign.drop (36 + 32 * k)).take 32).length = 32 := fun k hk => by simp; omega
  have zm := bstr_size msg
  have zsg := bstr_size sign
  have hdg := fun W => rdigits_3 W head c msg (by omega) hcl hm
  rw [← hpp] at hdg ⊢
  have hcan : otsCandV 4 pp 4 head msg sign = shaV (head ++ beB 32896 2 ++ chainsV head (fun i => (digitsV 4 pp 4 (otsQV head c msg)).getD i 0) (fun i => 2 ^ 4 - 1 - (digitsV 4 pp 4 (otsQV head c msg)).getD i 0) (fun i => (sign.drop (36 + 32 * i)).take 32) pp) := by rw [otsCandV, hc]
  generalize otsQV head c msg = Q at hdg hcan
  have hdl := digitsV_length 4 pp 4 Q (by omega)
  have hdlt := digitsV_lt 4 pp 4 Q
  generalize digitsV 4 pp 4 Q = DL at hdg hdl hdlt hcan
  obtain ⟨ALL, hALL⟩ : ∃ ALL, ALL = chainsV head (fun i => DL.getD i 0) (fun i => 2 ^ 4 - 1 - DL.getD i 0) (fun i => (sign.drop (36 + 32 * i)).take 32) pp := ⟨_, rfl⟩
  have hAl : ALL.length = 32 * pp := by rw [hALL, chainsV_length _ _ _ _ _ (fun i hi => hxl i hi)]
  rw [← hALL] at hcan
  have hV : otsCandV 4 pp 4 head msg sign = shaV (H2 ++ ALL) := by rw [hcan, hH2]; rfl
  clear hcan
  have hha := fun W => Sha_any W (H2 ++ ALL) (by rw [List.length_append, H2l]; omega)
  rw [← hV] at hha
  have hPl : (otsCandV 4 pp 4 head msg sign).length = 32 := by rw [hV]; exact shaV_length _
  clear hV
  generalize otsCandV 4 pp 4 head msg sign = PUB at hha hPl ⊢
  have hst : ∀ W (k : Nat), k < pp → ∀ d : Nat, d < 16 → ∀ x : List UInt8, x.length = 32 → Calls Try.prog 137 #[.string (bstr head), .int .i64 (k : Int), .int .i64 (d : Int), .int .i64 15, .string (bstr x)] W fun e w' => e = .returned (.string (bstr (stepsV head k d (2 ^ 4 - 1 - d) x))) ∧ Pure W w' := fun W k hk d hd x hx => by
    have := steps_any W head k d (15 - d) x (by omega) (by omega) (by omega) hx
    rw [show d + (15 - d) = 15 from by omega] at this
    exact this
  have hOB := fun W => ownsA_bytes W 5 H2 (by rw [H2l]; decide)
  rw [show H2.length = 22 from H2l] at hOB
  have hLL : (H2 ++ ALL).length = 22 + 32 * pp := by rw [List.length_append, H2l, hAl]
  have HRN := Lib.hid hrn; have HPR := Lib.hid hpr; have HMY := Lib.hid hmy; have HBE := Lib.hid hbe; have HDG := Lib.hid hdg; have HHA := Lib.hid hha; have HST := Lib.hid hst; have HOB := Lib.hid hOB; have HLL := Lib.hid hLL; have HALL := Lib.hid hALL; have HPP := Lib.hid hpp; have HDL := Lib.hid (And.intro hdl hdlt); have HEX := Lib.hid (And.intro hex hxl)
  have hp1 : pp ≤ 67 := by omega
  obtain ⟨sl, hsl2⟩ : ∃ sl, sl = sign.length := ⟨_, rfl⟩
  rw [← hsl2] at zsg hsl
  have q3 : ((sl : Int) != 2180) = false := by rw [hsl]; rfl
  have q4 : (sl != 2180) = false := by rw [hsl]; rfl
  have r1 : (36 : Int) ≤ sl := by omega
  have q5 : decide (65536 < (msg.length : Int)) = false := decide_eq_false (by omega)
  have q6 : decide (65536 < msg.length) = false := decide_eq_false (by omega)
  have HSL := Lib.hid (show sl = 36 + 32 * pp by omega)
  clear hrn hpr hmy hbe hdg hha hst hOB hLL hALL hdl hdlt hpp hphd hhead hH2 headl H2l hAl hrv hk4 hsk hc hcl hex hxl hsl hsl2 hm
  go_enter Try.func93, Try.ntmps93
  go_wp2_with (refine wpList_allocZ rfl 62 rfl X HZ.out ?_)
  intro g8 w1 e1 c1 t1 s1
  have l8 : w.heap.size ≤ g8 := by omega
  clear e1
  have D8 := Lib.hid c1; have PT := Lib.hid t1
  clear c1 t1 s1
  go_wp2_with fail
  refine (HRN.out _).mono ?_
  rintro e w2 ⟨rfl, t2⟩
  have PT := Lib.hid (PT.out.pure t2)
  have D8 := Lib.hid (t2.obj D8.out (fun e => e))
  clear t2
  go_wp2_with fail
  refine (HPR.out _).mono ?_
  rintro e w3 ⟨rfl, rfl⟩
  go_wp2_with fail
  refine (HMY.out _).mono ?_
  rintro e w3 ⟨rfl, rfl⟩
  go_wp2_with fail
  refine (HBE.out _).mono ?_
  rintro e w4 ⟨rfl, t4⟩
  have PT := Lib.hid (PT.out.pure t4)
  have D8 := Lib.hid (t4.obj D8.out (fun e => e))
  clear t4
  go_wp2_with fail
  refine (HDG.out _).mono ?_
  rintro e w6 ⟨r, rfl, hr, t6⟩
  obtain ⟨ra, rc, rfl, _⟩ := ownsRow_shape hr
  obtain ⟨gd, rfl⟩ : ∃ gd, ra = some ⟨gd, 0, none⟩ := by
    rcases hr.2 with ⟨_, h0⟩ | ⟨g, cap, cur, e, _⟩
    · have := HPP.out; omega
    · simp only [Value.slice.injEq] at e
      exact ⟨g, e.1⟩
  have hrg : w6.rangeAt gd 0 (intsN DL) := fun j u hj => by
    have := hr.cells (g := gd) rfl j u hj
    rwa [Addr.add_mid] at this
  have PT := Lib.hid (PT.out.pure t6); have RG := Lib.hid hrg; have D8 := Lib.hid (t6.obj D8.out (fun e => e))
  clear t6 hr hrg
  have hcv := Lib.run_convert_string_bytes (P := Try.prog) w6 9 65 5 (bstr H2) Try.underlying9 Try.underlying65 Try.underlying5
  rw [zH2] at hcv
  have hO := HOB.out w6
  generalize grownCap w6 22 0 5 = cap at hcv hO
  have hB : Pure w6 (Lib.bytesWorld w6 5 (bstr H2)) := bytesWorld_turn (Turn.refl _ _) _ _
  have hgl : gd < w6.heap.size := by
    have hl : 0 < (intsN DL).length := by rw [intsN_length]; have := HDL.out.1; have := HPP.out; omega
    have := RG.out 0 _ (List.getElem?_eq_getElem hl)
    exact World.block_lt_of_cell? w6 _ this
  have s6 : g8 < w6.heap.size := (Array.getElem?_eq_some_iff.1 D8.out).1
  have HG := Lib.hid (show w.heap.size ≤ w6.heap.size ∧ w6.heap.size ≠ g8 by omega)
  have PT := Lib.hid (PT.out.pure hB); have RG := Lib.hid (hB.range RG.out (fun e => e)); have D8 := Lib.hid (hB.obj D8.out (fun e => e))
  have HGD := Lib.hid (show gd ≠ w6.heap.size by omega)
  have HGL := Lib.hid (show gd < (Lib.bytesWorld w6 5 (bstr H2)).heap.size by have := hB.size; omega)
  have HO := Lib.hid hO
  clear hB hO hgl s6
  generalize Lib.bytesWorld w6 5 (bstr H2) = w8 at *
  generalize w6.heap.size = gb at *
  clear ex1
  go_wp2
  clear hcv
  go_loopw [16, 17] (fun v i wr => ∃ (k g cx : Nat), k ≤ 67 ∧ v = .slice (some ⟨g, 0, none⟩) (22 + 32 * k) cx ∧ i = .int .i64 (k : Int) ∧ Hid (ownsA wr 5 (.slice (some ⟨g, 0, none⟩) (22 + 32 * k) cx) (22 + 32 * k) (H2 ++ chainsV head (fun i => DL.getD i 0) (fun i => 2 ^ 4 - 1 - DL.getD i 0) (fun i => (sign.drop (36 + 32 * i)).take 32) k)) ∧ Hid (w.heap.size ≤ g ∧ g ≠ g8) ∧ Hid (gd ≠ g) ∧ Hid (gd < wr.heap.size) ∧ Hid (wr.rangeAt gd 0 (intsN DL)) ∧ Hid (wr.heap[g8]? = some (.cells X.toArray 62 (0, 0))) ∧ Hid (Pure w wr)) (fun _ i _ => 67 - (intOf i).toNat)
  case atStart => exact ⟨0, gb, cap, by omega, rfl, rfl, Lib.hid (by rw [chainsV, List.append_nil]; exact HO.out), HG, HGD, HGL, RG, D8, PT⟩
  case round =>
    obtain ⟨k, g, cx, hk, rfl, rfl, HO, HG, HGD, HGL, HRG, HD8, HP⟩ := hrel
    by_cases hlt : k < 67
    · have q1 : (k : Int) < 67 := by omega
      have hkp : k < pp := by have := HPP.out; omega
      have q7 : (k : Int) < pp := by omega
      have i1 : IntKind.i64.wrap ((k : Int) + 1) = ((k + 1 : Nat) : Int) := by rw [IntWalk.i64_in _ (by omega)]; omega
      have hkD : k < DL.length := by have := HDL.out.1; omega
      have hcell : wr.cell? ⟨gd, 0 + k, none⟩ = some (.int .i64 ((DL.getD k 0 : Nat) : Int)) := HRG.out k _ (by simp [intsN, List.getD, hkD])
      rw [Nat.zero_add] at hcell
      have hdk : DL.getD k 0 < 16 := by
        have := HDL.out.2 (DL.getD k 0) (by rw [List.getD_eq_getElem?_getD, List.getElem?_eq_getElem hkD]; simp)
        omega
      have hx32 := HEX.out.2 k hkp
      have hex := HEX.out.1 k hkp
      have hnext : (H2 ++ chainsV head (fun i => DL.getD i 0) (fun i => 2 ^ 4 - 1 - DL.getD i 0) (fun i => (sign.drop (36 + 32 * i)).take 32) k) ++ stepsV head k (DL.getD k 0) (2 ^ 4 - 1 - DL.getD k 0) ((sign.drop (36 + 32 * k)).take 32) = H2 ++ chainsV head (fun i => DL.getD i 0) (fun i => 2 ^ 4 - 1 - DL.getD i 0) (fun i => (sign.drop (36 + 32 * i)).take 32) (k + 1) := by rw [List.append_assoc]; rfl
      generalize (sign.drop (36 + 32 * k)).take 32 = x at hx32 hex hnext
      have hcs := fun W => HST.out W k hkp (DL.getD k 0) hdk x hx32
      have hyl : (stepsV head k (DL.getD k 0) (2 ^ 4 - 1 - DL.getD k 0) x).length = 32 := stepsV_length _ _ _ _ _ hx32
      generalize stepsV head k (DL.getD k 0) (2 ^ 4 - 1 - DL.getD k 0) x = y at hcs hnext hyl
      generalize DL.getD k 0 = dk at hcell hdk hcs
      have hnn : 22 + 32 * k + y.length = 22 + 32 * (k + 1) := by omega
      have HNX := Lib.hid (And.intro hnext hnn); have HCS := Lib.hid hcs; have HYL := Lib.hid hyl
      have x2 : IntKind.i64.wrap 16 = 16 := IntWalk.i64_in _ (by omega)
      have x3 : IntKind.i64.wrap 15 = 15 := IntWalk.i64_in _ (by omega)
      obtain ⟨ka, hka⟩ : ∃ ka, ka = 32 * k := ⟨_, rfl⟩
      obtain ⟨kb, hkb⟩ : ∃ kb, kb = 36 + 32 * k := ⟨_, rfl⟩
      obtain ⟨kc, hkc⟩ : ∃ kc, kc = 68 + 32 * k := ⟨_, rfl⟩
      rw [← hkb, ← hkc] at hex
      have i2 : IntKind.i64.wrap (32 * (k : Int)) = (ka : Int) := by rw [IntWalk.i64_in _ (by omega)]; omega
      have i3 : IntKind.i64.wrap (36 + (ka : Int)) = (kb : Int) := by rw [IntWalk.i64_in _ (by omega)]; omega
      have i4 : IntKind.i64.wrap (68 + (ka : Int)) = (kc : Int) := by rw [IntWalk.i64_in _ (by omega)]; omega
      have j1 : (kb : Int) ≤ kc := by omega
      have j2 : (kc : Int) ≤ sl := by have := HSL.out; omega
      have j3 : (0 : Int) ≤ kb := by omega
      have y1 : IntKind.i64.wrap (ka : Int) = ka := IntWalk.i64_in _ (by omega)
      have y2 : IntKind.i64.wrap (kb : Int) = kb := IntWalk.i64_in _ (by omega)
      have y3 : IntKind.i64.wrap (kc : Int) = kc := IntWalk.i64_in _ (by omega)
      have j4 : 32 * (k : Int) = (ka : Int) := by omega
      have j5 : 36 + (ka : Int) = (kb : Int) := by omega
      have j6 : 68 + (ka : Int) = (kc : Int) := by omega
      obtain ⟨n, hn⟩ : ∃ n, n = 22 + 32 * k := ⟨_, rfl⟩
      rw [← hn] at HO HNX ⊢
      have nb : n ≤ 10000 := by omega
      have HN := Lib.hid hn
      clear hnext hnn hcs hyl hn hkD hka hkb hkc hx32
      go_wp2_with fail
      refine wp_region_held_drew (S := fun w' => w'.cell? ⟨gd, k, none⟩ = some (.int .i64 (dk : Int))) (by kernel_rfl) (show wr.drew.cell? ⟨gd, k, none⟩ = some (.int .i64 (dk : Int)) from hcell) (fun hS => ?_)
      have HP := Lib.hid HP.out.drew
      have HRG := Lib.hid (show wr.drew.rangeAt gd 0 (intsN DL) from HRG.out); have HO := Lib.hid (show ownsA wr.drew _ _ _ _ from HO.out); have HGL := Lib.hid (show gd < wr.drew.heap.size from HGL.out); have HD8 := Lib.hid (show wr.drew.heap[g8]? = _ from HD8.out)
      have HS := Lib.hid hS
      clear hS hcell
      generalize wr.drew = wr at *
      refine wpAnyH_take (i := 0) (v := ?_) rfl (by kernel_rfl) (by kernel_rfl) (by kernel_rfl) (fun _ _ _ h => h) (Or.inl ⟨by rfl, fun w hSw => ?_⟩) HS.out ?_
      rotate_left
      · first | (go_simp; done) | (go_simp; with_reducible rfl)
      simp only [AP]
      refine wpAnyH_take (i := 1) (v := ?_) rfl (by kernel_rfl) (by kernel_rfl) (by kernel_rfl) (fun _ _ _ h => h) (Or.inl ⟨by rfl, fun w hSw => ?_⟩) HS.out ?_
      rotate_left
      · first | (go_simp; done) | (go_simp; with_reducible rfl)
      simp only [AP]
      refine wpAnyH_take (i := 2) (v := ?_) rfl (by kernel_rfl) (by kernel_rfl) (by kernel_rfl) (fun _ _ _ h => h) (Or.inl ⟨by rfl, fun w hSw => ?_⟩) HS.out ?_
      rotate_left
      · first | (go_simp; done) | (go_simp; with_reducible rfl)
      simp only [AP]
      refine wpAnyH_take (i := 3) (v := ?_) rfl (by kernel_rfl) (by kernel_rfl) (by kernel_rfl) (fun _ _ _ h => h) (Or.inl ⟨by rfl, fun w hSw => ?_⟩) HS.out ?_
      rotate_left
      · first | (go_simp; done) | (go_simp; with_reducible rfl)
      simp only [AP]
      refine wpAnyH_take (i := 4) (v := ?_) rfl (by kernel_rfl) (by kernel_rfl) (by kernel_rfl) (fun _ _ _ h => h) (Or.inl ⟨by rfl, fun w hSw => ?_⟩) HS.out ?_
      rotate_left
      · first | (go_simp; done) | (go_simp; with_reducible rfl)
      simp only [AP]
      refine wpAnyH_take (i := 5) (v := ?_) rfl (by kernel_rfl) (by kernel_rfl) (by kernel_rfl) (fun _ _ _ h => h) (Or.inl ⟨by rfl, fun w hSw => ?_⟩) HS.out ?_
      rotate_left
      · first | (go_simp; done) | (go_simp; with_reducible rfl)
      simp only [AP]
      refine wpAnyH_take (i := 6) (v := ?_) rfl (by kernel_rfl) (by kernel_rfl) (by kernel_rfl) (fun _ _ _ h => h) (Or.inl ⟨by rfl, fun w hSw => ?_⟩) HS.out ?_
      rotate_left
      · first | (go_simp; done) | (go_simp; with_reducible rfl)
      simp only [AP]
      refine wpAnyH_take (i := 7) (v := ?_) rfl (by kernel_rfl) (by kernel_rfl) (by kernel_rfl) (fun _ _ _ h => h) (Or.inl ⟨by rfl, fun w hSw => ?_⟩) HS.out ?_
      rotate_left
      · first | (go_simp; done) | (go_simp; with_reducible rfl)
      simp only [AP]
      refine wpAnyH_take (i := 8) (v := ?_) rfl (by kernel_rfl) (by kernel_rfl) (by kernel_rfl) (fun _ _ _ h => h) (Or.inl ⟨by rfl, fun w hSw => ?_⟩) HS.out ?_
      rotate_left
      · first | (go_simp; done) | (go_simp; with_reducible rfl)
      simp only [AP]
      refine wpAnyH_take (i := 9) (v := ?_) rfl (by kernel_rfl) (by kernel_rfl) (by kernel_rfl) (fun _ _ _ h => h) (Or.inl ⟨by rfl, fun w hSw => ?_⟩) HS.out ?_
      rotate_left
      · first | (go_simp; done) | (go_simp; with_reducible rfl)
      simp only [AP]
      refine wpAnyH_take (i := 10) (v := ?_) rfl (by kernel_rfl) (by kernel_rfl) (by kernel_rfl) (fun _ _ _ h => h) (Or.inl ⟨by rfl, fun w hSw => ?_⟩) HS.out ?_
      rotate_left
      · first | (go_simp; done) | (go_simp; with_reducible rfl)
      simp only [AP]
      refine wpAnyH_take (i := 11) (v := ?_) rfl (by kernel_rfl) (by kernel_rfl) (by kernel_rfl) (fun _ _ _ h => h) (Or.inl ⟨by rfl, fun w hSw => ?_⟩) HS.out ?_
      rotate_left
      · first | (go_simp; done) | (go_simp; with_reducible rfl)
      simp only [AP]
      refine wpAnyH_take (i := 12) (v := ?_) rfl (by kernel_rfl) (by kernel_rfl) (by kernel_rfl) (fun _ _ _ h => h) (Or.inl ⟨by rfl, fun w hSw => ?_⟩) HS.out ?_
      rotate_left
      · first | (go_simp; done) | (go_simp; with_reducible rfl)
      simp only [AP]
      refine wpAnyH_take (i := 13) (v := ?_) rfl (by kernel_rfl) (by kernel_rfl) (by kernel_rfl) (fun _ _ _ h => h) (Or.inl ⟨by rfl, fun w hSw => ?_⟩) HS.out ?_
      rotate_left
      · first | (go_simp; done) | (go_simp; with_reducible rfl)
      simp only [AP]
      refine wpAnyH_take (i := 14) (v := ?_) rfl (by kernel_rfl) (by kernel_rfl) (by kernel_rfl) (fun _ _ _ h => h) (Or.inl ⟨by rfl, fun w hSw => ?_⟩) HS.out ?_
      rotate_left
      · first | (go_simp; done) | (go_simp; with_reducible rfl)
      simp only [AP]
      refine wpAnyH_take (i := 15) (v := ?_) rfl (by kernel_rfl) (by kernel_rfl) (by kernel_rfl) (fun _ _ _ h => h) (Or.inl ⟨by rfl, fun w hSw => ?_⟩) HS.out ?_
      rotate_left
      · first | (go_simp; done) | (go_simp; with_reducible rfl)
      simp only [AP]
      refine wpAnyH_take (i := 16) (v := ?_) rfl (by kernel_rfl) (by kernel_rfl) (by kernel_rfl) (fun _ _ _ h => h) (Or.inl ⟨by rfl, fun w hSw => ?_⟩) HS.out ?_
      rotate_left
      · first | (go_simp; done) | (go_simp; with_reducible rfl)
      simp only [AP]
      refine wpAnyH_take (i := 17) (v := ?_) rfl (by kernel_rfl) (by kernel_rfl) (by kernel_rfl) (fun _ _ _ h => h) (Or.inl ⟨by rfl, fun w hSw => ?_⟩) HS.out ?_
      rotate_left
      · first | (go_simp; done) | (go_simp; with_reducible rfl)
      simp only [AP]
      refine wpAnyH_step (i := 18) (by kernel_rfl) rfl fun K hK => ?_
      go_simp
      refine (HCS.out _).mono ?_
      rintro e w7 ⟨rfl, t7⟩
      have HP := Lib.hid (HP.out.pure t7); have HRG := Lib.hid (t7.range HRG.out (fun e => e)); have HO := Lib.hid (t7.ownA HO.out (fun _ _ e => e)); have HS := Lib.hid (t7.cell HS.out (fun e => e)); have HGL := Lib.hid (Nat.lt_of_lt_of_le HGL.out t7.size); have HD8 := Lib.hid (t7.obj HD8.out (fun e => e))
      clear t7
      refine hK.out _ _ HS.out ?_
      clear hK K
      try simp only [AP]
      refine wpAnyH_step (i := 19) (by kernel_rfl) rfl fun K hK => ?_
      rw [if_pos (by rfl)]
      refine wp_appendA _ _ rfl w.heap.size _ n _ rfl HO.out (by intro q hq; cases hq; exact HG.out.1) HP.out.size y rfl (by have := HYL.out; omega) ?_
      intro g' c' w8 o8 b8 t8 ne8 ob8
      rw [HNX.out.1, HNX.out.2] at o8
      have HP8 := Lib.hid (HP.out.trans t8 fun x hx e => by omega : Pure w w8)
      have HRG8 := Lib.hid (show w8.rangeAt gd 0 (intsN DL) from fun j v hj => by
        have hc := HRG.out j v hj
        have hlt := World.block_lt_of_cell? _ _ hc
        have hx := Array.getElem?_eq_getElem hlt
        exact (World.cell?_of_block (by rw [ob8 gd _ (fun e => HGD.out (Option.some.inj e).symm) hx, hx])).trans hc)
      have HGD8 := Lib.hid (ne8 gd (fun e => HGD.out (Option.some.inj e).symm) HGL.out)
      have HD88 := Lib.hid (ob8 g8 _ (fun e => HG.out.2 (Option.some.inj e)) HD8.out)
      have HG8 := Lib.hid (And.intro b8 (Ne.symm (ne8 g8 (fun e => HG.out.2 (Option.some.inj e)) (Array.getElem?_eq_some_iff.1 HD8.out).1)))
      rw [HNX.out.2]
      have HO8 := Lib.hid o8
      have OB8 := Lib.hid ob8
      have HGL8 := Lib.hid (Nat.lt_of_lt_of_le HGL.out t8.size)
      clear t8 o8 b8 ne8 ob8
      have HS8 := Lib.hid (show w8.cell? ⟨gd, k, none⟩ = some (.int .i64 (dk : Int)) from by
        have hc := HS.out
        have hx := Array.getElem?_eq_getElem HGL.out
        exact (World.cell?_of_block (by rw [OB8.out gd _ (fun e => HGD.out (Option.some.inj e).symm) hx, hx])).trans hc)
      refine hK.out _ _ HS8.out ?_
      clear hK K
      try simp only [AP]
      refine wpAnyH_take (i := 20) (v := ?_) rfl (by kernel_rfl) (by kernel_rfl) (by kernel_rfl) (fun _ _ _ h => h) (Or.inl ⟨by rfl, fun w hSw => ?_⟩) HS8.out ?_
      rotate_left
      · first | (go_simp; done) | (go_simp; with_reducible rfl)
      simp only [AP]
      refine wpAnyH_done (by kernel_rfl) ?_ _
      go_wp2
      exact ⟨⟨k + 1, g', c', by omega, rfl, by first | rfl | trivial, HO8, HG8, HGD8, HGL8, HRG8, HD88, HP8⟩, by simp [intOf]; omega⟩
    · have q1 : ¬ ((k : Int) < 67) := by omega
      obtain rfl : k = pp := by have := HPP.out; omega
      rw [← HALL.out] at HO
      obtain ⟨gx, c2, ex, hcell⟩ := ownsA_shape HO.out
      obtain ⟨rfl, rfl⟩ : gx = g ∧ c2 = cx := by simp only [Value.slice.injEq, Option.some.injEq, Addr.mk.injEq] at ex; exact ⟨ex.1.1.symm, ex.2.2.symm⟩
      have hcv := conv_cells (P := Try.prog) wr 65 5 9 Try.underlying65 Try.underlying5 Try.underlying9 gx 0 (22 + 32 * k) c2 (H2 ++ ALL) HLL.out hcell
      obtain ⟨n, hn⟩ : ∃ n, n = 22 + 32 * k := ⟨_, rfl⟩
      rw [← hn] at hcv ⊢
      clear hcell ex HO hn
      generalize H2 ++ ALL = MS at hcv HHA
      go_wp2_with fail
      refine (HHA.out _).mono ?_
      rintro e w6 ⟨rfl, t6⟩
      have HP6 := Lib.hid (HP.out.pure t6); have HD86 := Lib.hid (t6.obj HD8.out (fun e => e))
      clear t6 HP HD8 hcv
      go_wp2_with (refine wpList_store_blk rfl 62 _ _ rfl g8 _ (u8s PUB) _ rfl rfl HD86.out (size28 hXl hPl) (info28_l hPl) (u8s_one _) ?_)
      intro w8 c8 t8 _
      have hO := Lib.hid c8
      have PF := Lib.hid (HP6.out.trans t8 fun x hx e => by omega : Pure w w8)
      clear c8 t8
      go_wp2
      exact bodyPost_ret (v := .tuple #[hv PUB, .int .i64 0]) (results_cell2 Try.results93 _ _ g8 _ (u8s PUB).toArray _ _ rfl hO.out Try.underlying62 rfl (info28_a hPl)) rfl ⟨rfl, PF.out⟩

set_option maxRecDepth 100000 in
set_option maxHeartbeats 4000000 in
theorem RCandidate_4 (w : World) (id msg sign : List UInt8) (q : Nat) (hid : id.length = 16) (hq : q ≤ 4294967295) (hm : msg.length ≤ 65536) (hsl : sign.length = 1124) (hsk : kindSV sign = (4, true)) :
    Calls Try.prog 93 #[.string (bstr id), .int .i64 (q : Int), .string (bstr msg), .string (bstr sign)] w fun e w' => e = .returned (.tuple #[hv (otsCandV 8 34 0 (placeV id q) msg sign), .int .i64 0]) ∧ Pure w w' := by
  obtain ⟨X, hXl, HZ⟩ := ex28
  have hk4 : k4V sign = 4 := by
    rw [kindSV, if_neg (by omega)] at hsk
    exact congrArg Prod.fst hsk
  have hrn : ∀ W, Calls Try.prog 44 #[.string (bstr sign), .int .i64 0] W fun e w' => e = .returned (.int .i64 (rnumV sign 0)) ∧ Pure W w' := fun W => rnum_any W sign 0 (by omega) (by omega)
  have hrv : rnumV sign 0 = 4 := by rw [rnumV, if_pos (by omega), List.drop_zero, hk4]
  rw [hrv] at hrn
  have hpr : ∀ W, Calls Try.prog 91 #[.int .i64 4] W fun e w' => e = .returned (.tuple #[.int .i64 8, .int .i64 34, .int .i64 0]) ∧ w' = W := fun W => Params_any W 4
  have hmy := fun W => otsMay_any W id q
  rw [placeB_true hid hq] at hmy
  have hbe := fun W => Be_anyS q 4 W (by omega) (by omega)
  have hbl : (beB q 4).length = 4 := beB_length _ _
  have hphd : placeV id q = id ++ beB q 4 := rfl
  rw [hphd]
  generalize beB q 4 = bq at hbe hbl ⊢
  obtain ⟨head, hhead⟩ : ∃ head, head = id ++ bq := ⟨_, rfl⟩
  have headl : head.length = 16 + 4 := by rw [hhead, List.length_append]; first | rfl | omega | (simp; omega) | simp
  have ahead : bstr id ++ bstr bq = bstr head := by rw [hhead]; exact bstr_app id bq
  have zhead : (bstr head).size = 16 + 4 := by rw [bstr_size, headl]
  have nhead : ¬ (9223372036854775807 < 16 + 4) := by omega
  rw [← hhead]
  have z1 : (bstr id).size = 16 := by rw [bstr_size, hid]
  have z2 : (bstr bq).size = 4 := by rw [bstr_size, hbl]
  obtain ⟨H2, hH2⟩ : ∃ H2, H2 = head ++ [128, 128] := ⟨_, rfl⟩
  have H2l : H2.length = 20 + 2 := by rw [hH2, List.length_append]; first | rfl | omega | (simp; omega) | simp
  have aH2 : bstr head ++ (⟨#[128, 128]⟩ : ByteArray) = bstr H2 := by rw [hH2]; exact bstr_app head [128, 128]
  have zH2 : (bstr H2).size = 20 + 2 := by rw [bstr_size, H2l]
  have nH2 : ¬ (9223372036854775807 < 20 + 2) := by omega
  obtain ⟨pp, hpp⟩ : ∃ pp : Nat, pp = 34 := ⟨_, rfl⟩
  obtain ⟨c, hc⟩ : ∃ c, c = (sign.drop 4).take 32 := ⟨_, rfl⟩
  have hcl : c.length = 32 := by rw [hc]; simp; omega
  have ex1 : (bstr sign).extract 4 36 = bstr c := by rw [bstr_ext, hc, List.drop_take]
  have hex : ∀ k, k < pp → (bstr sign).extract (36 + 32 * k) (68 + 32 * k) = bstr ((sign.drop (36 + 32 * k)).take 32) := fun k _ => by
    rw [bstr_ext, List.drop_take]
    congr 2
    omega
  have hxl : ∀ k, k < pp → ((sign.drop (36 + 32 * k)).take 32).length = 32 := fun k hk => by simp; omega
  have zm := bstr_size msg
  have zsg := bstr_size sign
  have hdg := fun W => rdigits_4 W head c msg (by omega) hcl hm
  rw [← hpp] at hdg ⊢
  have hcan : otsCandV 8 pp 0 head msg sign = shaV (head ++ beB 32896 2 ++ chainsV head (fun i => (digitsV 8 pp 0 (otsQV head c msg)).getD i 0) (fun i => 2 ^ 8 - 1 - (digitsV 8 pp 0 (otsQV head c msg)).getD i 0) (fun i => (sign.drop (36 + 32 * i)).take 32) pp) := by rw [otsCandV, hc]
  generalize otsQV head c msg = Q at hdg hcan
  have hdl := digitsV_length 8 pp 0 Q (by omega)
  have hdlt := digitsV_lt 8 pp 0 Q
  generalize digitsV 8 pp 0 Q = DL at hdg hdl hdlt hcan
  obtain ⟨ALL, hALL⟩ : ∃ ALL, ALL = chainsV head (fun i => DL.getD i 0) (fun i => 2 ^ 8 - 1 - DL.getD i 0) (fun i => (sign.drop (36 + 32 * i)).take 32) pp := ⟨_, rfl⟩
  have hAl : ALL.length = 32 * pp := by rw [hALL, chainsV_length _ _ _ _ _ (fun i hi => hxl i hi)]
  rw [← hALL] at hcan
  have hV : otsCandV 8 pp 0 head msg sign = shaV (H2 ++ ALL) := by rw [hcan, hH2]; rfl
  clear hcan
  have hha := fun W => Sha_any W (H2 ++ ALL) (by rw [List.length_append, H2l]; omega)
  rw [← hV] at hha
  have hPl : (otsCandV 8 pp 0 head msg sign).length = 32 := by rw [hV]; exact shaV_length _
  clear hV
  generalize otsCandV 8 pp 0 head msg sign = PUB at hha hPl ⊢
  have hst : ∀ W (k : Nat), k < pp → ∀ d : Nat, d < 256 → ∀ x : List UInt8, x.length = 32 → Calls Try.prog 137 #[.string (bstr head), .int .i64 (k : Int), .int .i64 (d : Int), .int .i64 255, .string (bstr x)] W fun e w' => e = .returned (.string (bstr (stepsV head k d (2 ^ 8 - 1 - d) x))) ∧ Pure W w' := fun W k hk d hd x hx => by
    have := steps_any W head k d (255 - d) x (by omega) (by omega) (by omega) hx
    rw [show d + (255 - d) = 255 from by omega] at this
    exact this
  have hOB := fun W => ownsA_bytes W 5 H2 (by rw [H2l]; decide)
  rw [show H2.length = 22 from H2l] at hOB
  have hLL : (H2 ++ ALL).length = 22 + 32 * pp := by rw [List.length_append, H2l, hAl]
  have HRN := Lib.hid hrn; have HPR := Lib.hid hpr; have HMY := Lib.hid hmy; have HBE := Lib.hid hbe; have HDG := Lib.hid hdg; have HHA := Lib.hid hha; have HST := Lib.hid hst; have HOB := Lib.hid hOB; have HLL := Lib.hid hLL; have HALL := Lib.hid hALL; have HPP := Lib.hid hpp; have HDL := Lib.hid (And.intro hdl hdlt); have HEX := Lib.hid (And.intro hex hxl)
  have hp1 : pp ≤ 67 := by omega
  obtain ⟨sl, hsl2⟩ : ∃ sl, sl = sign.length := ⟨_, rfl⟩
  rw [← hsl2] at zsg hsl
  have q3 : ((sl : Int) != 1124) = false := by rw [hsl]; rfl
  have q4 : (sl != 1124) = false := by rw [hsl]; rfl
  have r1 : (36 : Int) ≤ sl := by omega
  have q5 : decide (65536 < (msg.length : Int)) = false := decide_eq_false (by omega)
  have q6 : decide (65536 < msg.length) = false := decide_eq_false (by omega)
  have HSL := Lib.hid (show sl = 36 + 32 * pp by omega)
  clear hrn hpr hmy hbe hdg hha hst hOB hLL hALL hdl hdlt hpp hphd hhead hH2 headl H2l hAl hrv hk4 hsk hc hcl hex hxl hsl hsl2 hm
  go_enter Try.func93, Try.ntmps93
  go_wp2_with (refine wpList_allocZ rfl 62 rfl X HZ.out ?_)
  intro g8 w1 e1 c1 t1 s1
  have l8 : w.heap.size ≤ g8 := by omega
  clear e1
  have D8 := Lib.hid c1; have PT := Lib.hid t1
  clear c1 t1 s1
  go_wp2_with fail
  refine (HRN.out _).mono ?_
  rintro e w2 ⟨rfl, t2⟩
  have PT := Lib.hid (PT.out.pure t2)
  have D8 := Lib.hid (t2.obj D8.out (fun e => e))
  clear t2
  go_wp2_with fail
  refine (HPR.out _).mono ?_
  rintro e w3 ⟨rfl, rfl⟩
  go_wp2_with fail
  refine (HMY.out _).mono ?_
  rintro e w3 ⟨rfl, rfl⟩
  go_wp2_with fail
  refine (HBE.out _).mono ?_
  rintro e w4 ⟨rfl, t4⟩
  have PT := Lib.hid (PT.out.pure t4)
  have D8 := Lib.hid (t4.obj D8.out (fun e => e))
  clear t4
  go_wp2_with fail
  refine (HDG.out _).mono ?_
  rintro e w6 ⟨r, rfl, hr, t6⟩
  obtain ⟨ra, rc, rfl, _⟩ := ownsRow_shape hr
  obtain ⟨gd, rfl⟩ : ∃ gd, ra = some ⟨gd, 0, none⟩ := by
    rcases hr.2 with ⟨_, h0⟩ | ⟨g, cap, cur, e, _⟩
    · have := HPP.out; omega
    · simp only [Value.slice.injEq] at e
      exact ⟨g, e.1⟩
  have hrg : w6.rangeAt gd 0 (intsN DL) := fun j u hj => by
    have := hr.cells (g := gd) rfl j u hj
    rwa [Addr.add_mid] at this
  have PT := Lib.hid (PT.out.pure t6); have RG := Lib.hid hrg; have D8 := Lib.hid (t6.obj D8.out (fun e => e))
  clear t6 hr hrg
  have hcv := Lib.run_convert_string_bytes (P := Try.prog) w6 9 65 5 (bstr H2) Try.underlying9 Try.underlying65 Try.underlying5
  rw [zH2] at hcv
  have hO := HOB.out w6
  generalize grownCap w6 22 0 5 = cap at hcv hO
  have hB : Pure w6 (Lib.bytesWorld w6 5 (bstr H2)) := bytesWorld_turn (Turn.refl _ _) _ _
  have hgl : gd < w6.heap.size := by
    have hl : 0 < (intsN DL).length := by rw [intsN_length]; have := HDL.out.1; have := HPP.out; omega
    have := RG.out 0 _ (List.getElem?_eq_getElem hl)
    exact World.block_lt_of_cell? w6 _ this
  have s6 : g8 < w6.heap.size := (Array.getElem?_eq_some_iff.1 D8.out).1
  have HG := Lib.hid (show w.heap.size ≤ w6.heap.size ∧ w6.heap.size ≠ g8 by omega)
  have PT := Lib.hid (PT.out.pure hB); have RG := Lib.hid (hB.range RG.out (fun e => e)); have D8 := Lib.hid (hB.obj D8.out (fun e => e))
  have HGD := Lib.hid (show gd ≠ w6.heap.size by omega)
  have HGL := Lib.hid (show gd < (Lib.bytesWorld w6 5 (bstr H2)).heap.size by have := hB.size; omega)
  have HO := Lib.hid hO
  clear hB hO hgl s6
  generalize Lib.bytesWorld w6 5 (bstr H2) = w8 at *
  generalize w6.heap.size = gb at *
  clear ex1
  go_wp2
  clear hcv
  go_loopw [16, 17] (fun v i wr => ∃ (k g cx : Nat), k ≤ 34 ∧ v = .slice (some ⟨g, 0, none⟩) (22 + 32 * k) cx ∧ i = .int .i64 (k : Int) ∧ Hid (ownsA wr 5 (.slice (some ⟨g, 0, none⟩) (22 + 32 * k) cx) (22 + 32 * k) (H2 ++ chainsV head (fun i => DL.getD i 0) (fun i => 2 ^ 8 - 1 - DL.getD i 0) (fun i => (sign.drop (36 + 32 * i)).take 32) k)) ∧ Hid (w.heap.size ≤ g ∧ g ≠ g8) ∧ Hid (gd ≠ g) ∧ Hid (gd < wr.heap.size) ∧ Hid (wr.rangeAt gd 0 (intsN DL)) ∧ Hid (wr.heap[g8]? = some (.cells X.toArray 62 (0, 0))) ∧ Hid (Pure w wr)) (fun _ i _ => 34 - (intOf i).toNat)
  case atStart => exact ⟨0, gb, cap, by omega, rfl, rfl, Lib.hid (by rw [chainsV, List.append_nil]; exact HO.out), HG, HGD, HGL, RG, D8, PT⟩
  case round =>
    obtain ⟨k, g, cx, hk, rfl, rfl, HO, HG, HGD, HGL, HRG, HD8, HP⟩ := hrel
    by_cases hlt : k < 34
    · have q1 : (k : Int) < 34 := by omega
      have hkp : k < pp := by have := HPP.out; omega
      have q7 : (k : Int) < pp := by omega
      have i1 : IntKind.i64.wrap ((k : Int) + 1) = ((k + 1 : Nat) : Int) := by rw [IntWalk.i64_in _ (by omega)]; omega
      have hkD : k < DL.length := by have := HDL.out.1; omega
      have hcell : wr.cell? ⟨gd, 0 + k, none⟩ = some (.int .i64 ((DL.getD k 0 : Nat) : Int)) := HRG.out k _ (by simp [intsN, List.getD, hkD])
      rw [Nat.zero_add] at hcell
      have hdk : DL.getD k 0 < 256 := by
        have := HDL.out.2 (DL.getD k 0) (by rw [List.getD_eq_getElem?_getD, List.getElem?_eq_getElem hkD]; simp)
        omega
      have hx32 := HEX.out.2 k hkp
      have hex := HEX.out.1 k hkp
      have hnext : (H2 ++ chainsV head (fun i => DL.getD i 0) (fun i => 2 ^ 8 - 1 - DL.getD i 0) (fun i => (sign.drop (36 + 32 * i)).take 32) k) ++ stepsV head k (DL.getD k 0) (2 ^ 8 - 1 - DL.getD k 0) ((sign.drop (36 + 32 * k)).take 32) = H2 ++ chainsV head (fun i => DL.getD i 0) (fun i => 2 ^ 8 - 1 - DL.getD i 0) (fun i => (sign.drop (36 + 32 * i)).take 32) (k + 1) := by rw [List.append_assoc]; rfl
      generalize (sign.drop (36 + 32 * k)).take 32 = x at hx32 hex hnext
      have hcs := fun W => HST.out W k hkp (DL.getD k 0) hdk x hx32
      have hyl : (stepsV head k (DL.getD k 0) (2 ^ 8 - 1 - DL.getD k 0) x).length = 32 := stepsV_length _ _ _ _ _ hx32
      generalize stepsV head k (DL.getD k 0) (2 ^ 8 - 1 - DL.getD k 0) x = y at hcs hnext hyl
      generalize DL.getD k 0 = dk at hcell hdk hcs
      have hnn : 22 + 32 * k + y.length = 22 + 32 * (k + 1) := by omega
      have HNX := Lib.hid (And.intro hnext hnn); have HCS := Lib.hid hcs; have HYL := Lib.hid hyl
      have x2 : IntKind.i64.wrap 256 = 256 := IntWalk.i64_in _ (by omega)
      have x3 : IntKind.i64.wrap 255 = 255 := IntWalk.i64_in _ (by omega)
      obtain ⟨ka, hka⟩ : ∃ ka, ka = 32 * k := ⟨_, rfl⟩
      obtain ⟨kb, hkb⟩ : ∃ kb, kb = 36 + 32 * k := ⟨_, rfl⟩
      obtain ⟨kc, hkc⟩ : ∃ kc, kc = 68 + 32 * k := ⟨_, rfl⟩
      rw [← hkb, ← hkc] at hex
      have i2 : IntKind.i64.wrap (32 * (k : Int)) = (ka : Int) := by rw [IntWalk.i64_in _ (by omega)]; omega
      have i3 : IntKind.i64.wrap (36 + (ka : Int)) = (kb : Int) := by rw [IntWalk.i64_in _ (by omega)]; omega
      have i4 : IntKind.i64.wrap (68 + (ka : Int)) = (kc : Int) := by rw [IntWalk.i64_in _ (by omega)]; omega
      have j1 : (kb : Int) ≤ kc := by omega
      have j2 : (kc : Int) ≤ sl := by have := HSL.out; omega
      have j3 : (0 : Int) ≤ kb := by omega
      have y1 : IntKind.i64.wrap (ka : Int) = ka := IntWalk.i64_in _ (by omega)
      have y2 : IntKind.i64.wrap (kb : Int) = kb := IntWalk.i64_in _ (by omega)
      have y3 : IntKind.i64.wrap (kc : Int) = kc := IntWalk.i64_in _ (by omega)
      have j4 : 32 * (k : Int) = (ka : Int) := by omega
      have j5 : 36 + (ka : Int) = (kb : Int) := by omega
      have j6 : 68 + (ka : Int) = (kc : Int) := by omega
      obtain ⟨n, hn⟩ : ∃ n, n = 22 + 32 * k := ⟨_, rfl⟩
      rw [← hn] at HO HNX ⊢
      have nb : n ≤ 10000 := by omega
      have HN := Lib.hid hn
      clear hnext hnn hcs hyl hn hkD hka hkb hkc hx32
      go_wp2_with fail
      refine wp_region_held_drew (S := fun w' => w'.cell? ⟨gd, k, none⟩ = some (.int .i64 (dk : Int))) (by kernel_rfl) (show wr.drew.cell? ⟨gd, k, none⟩ = some (.int .i64 (dk : Int)) from hcell) (fun hS => ?_)
      have HP := Lib.hid HP.out.drew
      have HRG := Lib.hid (show wr.drew.rangeAt gd 0 (intsN DL) from HRG.out); have HO := Lib.hid (show ownsA wr.drew _ _ _ _ from HO.out); have HGL := Lib.hid (show gd < wr.drew.heap.size from HGL.out); have HD8 := Lib.hid (show wr.drew.heap[g8]? = _ from HD8.out)
      have HS := Lib.hid hS
      clear hS hcell
      generalize wr.drew = wr at *
      refine wpAnyH_take (i := 0) (v := ?_) rfl (by kernel_rfl) (by kernel_rfl) (by kernel_rfl) (fun _ _ _ h => h) (Or.inl ⟨by rfl, fun w hSw => ?_⟩) HS.out ?_
      rotate_left
      · first | (go_simp; done) | (go_simp; with_reducible rfl)
      simp only [AP]
      refine wpAnyH_take (i := 1) (v := ?_) rfl (by kernel_rfl) (by kernel_rfl) (by kernel_rfl) (fun _ _ _ h => h) (Or.inl ⟨by rfl, fun w hSw => ?_⟩) HS.out ?_
      rotate_left
      · first | (go_simp; done) | (go_simp; with_reducible rfl)
      simp only [AP]
      refine wpAnyH_take (i := 2) (v := ?_) rfl (by kernel_rfl) (by kernel_rfl) (by kernel_rfl) (fun _ _ _ h => h) (Or.inl ⟨by rfl, fun w hSw => ?_⟩) HS.out ?_
      rotate_left
      · first | (go_simp; done) | (go_simp; with_reducible rfl)
      simp only [AP]
      refine wpAnyH_take (i := 3) (v := ?_) rfl (by kernel_rfl) (by kernel_rfl) (by kernel_rfl) (fun _ _ _ h => h) (Or.inl ⟨by rfl, fun w hSw => ?_⟩) HS.out ?_
      rotate_left
      · first | (go_simp; done) | (go_simp; with_reducible rfl)
      simp only [AP]
      refine wpAnyH_take (i := 4) (v := ?_) rfl (by kernel_rfl) (by kernel_rfl) (by kernel_rfl) (fun _ _ _ h => h) (Or.inl ⟨by rfl, fun w hSw => ?_⟩) HS.out ?_
      rotate_left
      · first | (go_simp; done) | (go_simp; with_reducible rfl)
      simp only [AP]
      refine wpAnyH_take (i := 5) (v := ?_) rfl (by kernel_rfl) (by kernel_rfl) (by kernel_rfl) (fun _ _ _ h => h) (Or.inl ⟨by rfl, fun w hSw => ?_⟩) HS.out ?_
      rotate_left
      · first | (go_simp; done) | (go_simp; with_reducible rfl)
      simp only [AP]
      refine wpAnyH_take (i := 6) (v := ?_) rfl (by kernel_rfl) (by kernel_rfl) (by kernel_rfl) (fun _ _ _ h => h) (Or.inl ⟨by rfl, fun w hSw => ?_⟩) HS.out ?_
      rotate_left
      · first | (go_simp; done) | (go_simp; with_reducible rfl)
      simp only [AP]
      refine wpAnyH_take (i := 7) (v := ?_) rfl (by kernel_rfl) (by kernel_rfl) (by kernel_rfl) (fun _ _ _ h => h) (Or.inl ⟨by rfl, fun w hSw => ?_⟩) HS.out ?_
      rotate_left
      · first | (go_simp; done) | (go_simp; with_reducible rfl)
      simp only [AP]
      refine wpAnyH_take (i := 8) (v := ?_) rfl (by kernel_rfl) (by kernel_rfl) (by kernel_rfl) (fun _ _ _ h => h) (Or.inl ⟨by rfl, fun w hSw => ?_⟩) HS.out ?_
      rotate_left
      · first | (go_simp; done) | (go_simp; with_reducible rfl)
      simp only [AP]
      refine wpAnyH_take (i := 9) (v := ?_) rfl (by kernel_rfl) (by kernel_rfl) (by kernel_rfl) (fun _ _ _ h => h) (Or.inl ⟨by rfl, fun w hSw => ?_⟩) HS.out ?_
      rotate_left
      · first | (go_simp; done) | (go_simp; with_reducible rfl)
      simp only [AP]
      refine wpAnyH_take (i := 10) (v := ?_) rfl (by kernel_rfl) (by kernel_rfl) (by kernel_rfl) (fun _ _ _ h => h) (Or.inl ⟨by rfl, fun w hSw => ?_⟩) HS.out ?_
      rotate_left
      · first | (go_simp; done) | (go_simp; with_reducible rfl)
      simp only [AP]
      refine wpAnyH_take (i := 11) (v := ?_) rfl (by kernel_rfl) (by kernel_rfl) (by kernel_rfl) (fun _ _ _ h => h) (Or.inl ⟨by rfl, fun w hSw => ?_⟩) HS.out ?_
      rotate_left
      · first | (go_simp; done) | (go_simp; with_reducible rfl)
      simp only [AP]
      refine wpAnyH_take (i := 12) (v := ?_) rfl (by kernel_rfl) (by kernel_rfl) (by kernel_rfl) (fun _ _ _ h => h) (Or.inl ⟨by rfl, fun w hSw => ?_⟩) HS.out ?_
      rotate_left
      · first | (go_simp; done) | (go_simp; with_reducible rfl)
      simp only [AP]
      refine wpAnyH_take (i := 13) (v := ?_) rfl (by kernel_rfl) (by kernel_rfl) (by kernel_rfl) (fun _ _ _ h => h) (Or.inl ⟨by rfl, fun w hSw => ?_⟩) HS.out ?_
      rotate_left
      · first | (go_simp; done) | (go_simp; with_reducible rfl)
      simp only [AP]
      refine wpAnyH_take (i := 14) (v := ?_) rfl (by kernel_rfl) (by kernel_rfl) (by kernel_rfl) (fun _ _ _ h => h) (Or.inl ⟨by rfl, fun w hSw => ?_⟩) HS.out ?_
      rotate_left
      · first | (go_simp; done) | (go_simp; with_reducible rfl)
      simp only [AP]
      refine wpAnyH_take (i := 15) (v := ?_) rfl (by kernel_rfl) (by kernel_rfl) (by kernel_rfl) (fun _ _ _ h => h) (Or.inl ⟨by rfl, fun w hSw => ?_⟩) HS.out ?_
      rotate_left
      · first | (go_simp; done) | (go_simp; with_reducible rfl)
      simp only [AP]
      refine wpAnyH_take (i := 16) (v := ?_) rfl (by kernel_rfl) (by kernel_rfl) (by kernel_rfl) (fun _ _ _ h => h) (Or.inl ⟨by rfl, fun w hSw => ?_⟩) HS.out ?_
      rotate_left
      · first | (go_simp; done) | (go_simp; with_reducible rfl)
      simp only [AP]
      refine wpAnyH_take (i := 17) (v := ?_) rfl (by kernel_rfl) (by kernel_rfl) (by kernel_rfl) (fun _ _ _ h => h) (Or.inl ⟨by rfl, fun w hSw => ?_⟩) HS.out ?_
      rotate_left
      · first | (go_simp; done) | (go_simp; with_reducible rfl)
      simp only [AP]
      refine wpAnyH_step (i := 18) (by kernel_rfl) rfl fun K hK => ?_
      go_simp
      refine (HCS.out _).mono ?_
      rintro e w7 ⟨rfl, t7⟩
      have HP := Lib.hid (HP.out.pure t7); have HRG := Lib.hid (t7.range HRG.out (fun e => e)); have HO := Lib.hid (t7.ownA HO.out (fun _ _ e => e)); have HS := Lib.hid (t7.cell HS.out (fun e => e)); have HGL := Lib.hid (Nat.lt_of_lt_of_le HGL.out t7.size); have HD8 := Lib.hid (t7.obj HD8.out (fun e => e))
      clear t7
      refine hK.out _ _ HS.out ?_
      clear hK K
      try simp only [AP]
      refine wpAnyH_step (i := 19) (by kernel_rfl) rfl fun K hK => ?_
      rw [if_pos (by rfl)]
      refine wp_appendA _ _ rfl w.heap.size _ n _ rfl HO.out (by intro q hq; cases hq; exact HG.out.1) HP.out.size y rfl (by have := HYL.out; omega) ?_
      intro g' c' w8 o8 b8 t8 ne8 ob8
      rw [HNX.out.1, HNX.out.2] at o8
      have HP8 := Lib.hid (HP.out.trans t8 fun x hx e => by omega : Pure w w8)
      have HRG8 := Lib.hid (show w8.rangeAt gd 0 (intsN DL) from fun j v hj => by
        have hc := HRG.out j v hj
        have hlt := World.block_lt_of_cell? _ _ hc
        have hx := Array.getElem?_eq_getElem hlt
        exact (World.cell?_of_block (by rw [ob8 gd _ (fun e => HGD.out (Option.some.inj e).symm) hx, hx])).trans hc)
      have HGD8 := Lib.hid (ne8 gd (fun e => HGD.out (Option.some.inj e).symm) HGL.out)
      have HD88 := Lib.hid (ob8 g8 _ (fun e => HG.out.2 (Option.some.inj e)) HD8.out)
      have HG8 := Lib.hid (And.intro b8 (Ne.symm (ne8 g8 (fun e => HG.out.2 (Option.some.inj e)) (Array.getElem?_eq_some_iff.1 HD8.out).1)))
      rw [HNX.out.2]
      have HO8 := Lib.hid o8
      have OB8 := Lib.hid ob8
      have HGL8 := Lib.hid (Nat.lt_of_lt_of_le HGL.out t8.size)
      clear t8 o8 b8 ne8 ob8
      have HS8 := Lib.hid (show w8.cell? ⟨gd, k, none⟩ = some (.int .i64 (dk : Int)) from by
        have hc := HS.out
        have hx := Array.getElem?_eq_getElem HGL.out
        exact (World.cell?_of_block (by rw [OB8.out gd _ (fun e => HGD.out (Option.some.inj e).symm) hx, hx])).trans hc)
      refine hK.out _ _ HS8.out ?_
      clear hK K
      try simp only [AP]
      refine wpAnyH_take (i := 20) (v := ?_) rfl (by kernel_rfl) (by kernel_rfl) (by kernel_rfl) (fun _ _ _ h => h) (Or.inl ⟨by rfl, fun w hSw => ?_⟩) HS8.out ?_
      rotate_left
      · first | (go_simp; done) | (go_simp; with_reducible rfl)
      simp only [AP]
      refine wpAnyH_done (by kernel_rfl) ?_ _
      go_wp2
      exact ⟨⟨k + 1, g', c', by omega, rfl, by first | rfl | trivial, HO8, HG8, HGD8, HGL8, HRG8, HD88, HP8⟩, by simp [intOf]; omega⟩
    · have q1 : ¬ ((k : Int) < 34) := by omega
      obtain rfl : k = pp := by have := HPP.out; omega
      rw [← HALL.out] at HO
      obtain ⟨gx, c2, ex, hcell⟩ := ownsA_shape HO.out
      obtain ⟨rfl, rfl⟩ : gx = g ∧ c2 = cx := by simp only [Value.slice.injEq, Option.some.injEq, Addr.mk.injEq] at ex; exact ⟨ex.1.1.symm, ex.2.2.symm⟩
      have hcv := conv_cells (P := Try.prog) wr 65 5 9 Try.underlying65 Try.underlying5 Try.underlying9 gx 0 (22 + 32 * k) c2 (H2 ++ ALL) HLL.out hcell
      obtain ⟨n, hn⟩ : ∃ n, n = 22 + 32 * k := ⟨_, rfl⟩
      rw [← hn] at hcv ⊢
      clear hcell ex HO hn
      generalize H2 ++ ALL = MS at hcv HHA
      go_wp2_with fail
      refine (HHA.out _).mono ?_
      rintro e w6 ⟨rfl, t6⟩
      have HP6 := Lib.hid (HP.out.pure t6); have HD86 := Lib.hid (t6.obj HD8.out (fun e => e))
      clear t6 HP HD8 hcv
      go_wp2_with (refine wpList_store_blk rfl 62 _ _ rfl g8 _ (u8s PUB) _ rfl rfl HD86.out (size28 hXl hPl) (info28_l hPl) (u8s_one _) ?_)
      intro w8 c8 t8 _
      have hO := Lib.hid c8
      have PF := Lib.hid (HP6.out.trans t8 fun x hx e => by omega : Pure w w8)
      clear c8 t8
      go_wp2
      exact bodyPost_ret (v := .tuple #[hv PUB, .int .i64 0]) (results_cell2 Try.results93 _ _ g8 _ (u8s PUB).toArray _ _ rfl hO.out Try.underlying62 rfl (info28_a hPl)) rfl ⟨rfl, PF.out⟩
end Go.Proofs.Ytcfbmbhkdicpfaa
