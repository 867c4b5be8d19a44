/- Chapter 4, the reference: signatures. -/
import Derived.Test.YtcfbmbhkdicpfaaOtsI
import Derived.Test.YtcfbmbhkdicpfaaOwnA
namespace Go.Proofs.Ytcfbmbhkdicpfaa
open Go.RowKit

set_option maxRecDepth 100000 in
set_option maxHeartbeats 4000000 in
theorem ROtsSign_3 (w : World) (id seed msg : List UInt8) (q : Nat) (hid : id.length = 16) (hq : q ≤ 4294967295) (hsd : seed.length = 32) (hm : msg.length ≤ 65536) :
    Calls Try.prog 89 #[.int .i64 3, .string (bstr id), .int .i64 (q : Int), .string (bstr seed), .string (bstr msg)] w fun e w' => e = .returned (.tuple #[.string (bstr (otsSignV 3 4 67 4 (placeV id q) seed msg)), .int .i64 0]) ∧ Pure w w' := by
  have hpr : ∀ W, Calls Try.prog 91 #[.int .i64 3] W fun e w' => e = .returned (.tuple #[.int .i64 4, .int .i64 67, .int .i64 4]) ∧ w' = W := fun W => Params_any W 3
  have hmy := fun W => otsMay_any W id q
  rw [placeB_true hid hq] at hmy
  have hbe := fun W => Be_anyS q 4 W (by omega) (by omega)
  have hbl : (beB q 4).length = 4 := beB_length _ _
  have hphd : placeV id q = id ++ beB q 4 := rfl
  rw [hphd]
  generalize beB q 4 = bq at hbe hbl ⊢
  obtain ⟨head, hhead⟩ : ∃ head, head = id ++ bq := ⟨_, rfl⟩
  have headl : head.length = 16 + 4 := by rw [hhead, List.length_append]; first | rfl | omega | (simp; omega) | simp
  have ahead : bstr id ++ bstr bq = bstr head := by rw [hhead]; exact bstr_app id bq
  have zhead : (bstr head).size = 16 + 4 := by rw [bstr_size, headl]
  have nhead : ¬ (9223372036854775807 < 16 + 4) := by omega
  rw [← hhead]
  have z1 : (bstr id).size = 16 := by rw [bstr_size, hid]
  have z2 : (bstr bq).size = 4 := by rw [bstr_size, hbl]
  obtain ⟨A1, hA1⟩ : ∃ A1, A1 = head ++ [255, 253, 255] := ⟨_, rfl⟩
  have A1l : A1.length = 20 + 3 := by rw [hA1, List.length_append]; first | rfl | omega | (simp; omega) | simp
  have aA1 : bstr head ++ (⟨#[255, 253, 255]⟩ : ByteArray) = bstr A1 := by rw [hA1]; exact bstr_app head [255, 253, 255]
  have zA1 : (bstr A1).size = 20 + 3 := by rw [bstr_size, A1l]
  have nA1 : ¬ (9223372036854775807 < 20 + 3) := by omega
  obtain ⟨A2, hA2⟩ : ∃ A2, A2 = A1 ++ seed := ⟨_, rfl⟩
  have A2l : A2.length = 23 + 32 := by rw [hA2, List.length_append]; first | rfl | omega | (simp; omega) | simp
  have aA2 : bstr A1 ++ bstr seed = bstr A2 := by rw [hA2]; exact bstr_app A1 seed
  have zA2 : (bstr A2).size = 23 + 32 := by rw [bstr_size, A2l]
  have nA2 : ¬ (9223372036854775807 < 23 + 32) := by omega
  have z3 : (bstr seed).size = 32 := by rw [bstr_size, hsd]
  have hh := fun W => H_any W A2 (by omega)
  have hcV : otsCV head seed = shaV A2 := by rw [otsCV, hA2, hA1]; simp [show beB 65533 2 = [255, 253] from rfl]
  rw [← hcV] at hh
  have hcl : (otsCV head seed).length = 32 := shaV_length _
  obtain ⟨pp, hpp⟩ : ∃ pp : Nat, pp = 67 := ⟨_, rfl⟩
  have hsv : otsSignV 3 4 pp 4 head seed msg = beB 3 4 ++ otsCV head seed ++ chainsV head (fun _ => 0) (fun i => (digitsV 4 pp 4 (otsQV head (otsCV head seed) msg)).getD i 0) (fun i => startV head i seed) pp := rfl
  generalize otsCV head seed = c at hh hcl hsv
  have hdg := fun W => rdigits_3 W head c msg (by omega) hcl hm
  rw [← hpp] at hdg ⊢
  generalize otsQV head c msg = Q at hdg hsv
  have hdl := digitsV_length 4 pp 4 Q (by omega)
  have hdlt := digitsV_lt 4 pp 4 Q
  generalize digitsV 4 pp 4 Q = DL at hdg hdl hdlt hsv
  obtain ⟨NK, hNK⟩ : ∃ NK, NK = beB 3 4 := ⟨_, rfl⟩
  have hNKl : NK.length = 4 := by rw [hNK]; exact beB_length _ _
  obtain ⟨O0, hO0⟩ : ∃ O0, O0 = NK ++ c := ⟨_, rfl⟩
  have O0l : O0.length = 4 + 32 := by rw [hO0, List.length_append]; first | rfl | omega | (simp; omega) | simp
  have aO0 : bstr NK ++ bstr c = bstr O0 := by rw [hO0]; exact bstr_app NK c
  have zO0 : (bstr O0).size = 4 + 32 := by rw [bstr_size, O0l]
  have nO0 : ¬ (9223372036854775807 < 4 + 32) := by omega
  have zn : (bstr NK).size = 4 := by rw [bstr_size, hNKl]
  have zc : (bstr c).size = 32 := by rw [bstr_size, hcl]
  have zm := bstr_size msg
  have hbk : ∀ W, Calls Try.prog 37 #[.int .i64 3, .int .i64 4] W fun e w' => e = .returned (.string (bstr NK)) ∧ Pure W w' := fun W => by
    rw [hNK]
    exact Be_anyS 3 4 W (by omega) (by omega)
  rw [← hNK, ← hO0] at hsv
  obtain ⟨SG, hSG⟩ : ∃ SG, SG = O0 ++ chainsV head (fun _ => 0) (fun i => DL.getD i 0) (fun i => startV head i seed) pp := ⟨_, rfl⟩
  have hSGl : SG.length = 36 + 32 * pp := by rw [hSG, List.length_append, O0l, chainsV_length _ _ _ _ _ (fun i _ => startV_length _ _ _)]
  rw [hsv, ← hSG]
  have HSG := Lib.hid (And.intro hSG hSGl)
  clear hSG hSGl
  have hpv := fun W (k : Nat) (hk : k < pp) => private_any W head seed k (by omega) (by omega) (by omega)
  have hst := fun W (k : Nat) (hk : k < pp) (d : Nat) (hd : d < 16) => steps_any W head k 0 d (startV head k seed) (by omega) (by omega) (by omega) (startV_length _ _ _)
  have HPR := Lib.hid hpr; have HMY := Lib.hid hmy; have HBE := Lib.hid hbe; have HH := Lib.hid hh; have HDG := Lib.hid hdg; have HBK := Lib.hid hbk; have HPV := Lib.hid hpv; have HST := Lib.hid hst; have HPP := Lib.hid hpp; have HDL := Lib.hid (And.intro hdl hdlt)
  have hOB := fun W => ownsA_bytes W 5 O0 (by rw [O0l]; decide)
  rw [show O0.length = 36 from O0l] at hOB
  have HOB := Lib.hid hOB; have HO0 := Lib.hid O0l
  have hp1 : pp ≤ 67 := by omega
  have q5 : decide (65536 < (msg.length : Int)) = false := decide_eq_false (by omega)
  have q6 : decide (65536 < msg.length) = false := decide_eq_false (by omega)
  clear hpr hmy hbe hh hdg hbk hpv hst hdl hdlt hOB hphd hhead hA1 hA2 headl A1l A2l hcV hsv hNK hNKl hO0 O0l hpp hm
  go_enter Try.func89, Try.ntmps89
  have PT := Lib.hid (Turn.refl (fun _ => False) w)
  go_wp2_with fail
  refine (HPR.out _).mono ?_
  rintro e w2 ⟨rfl, e2⟩
  rw [e2]
  clear e2
  go_wp2_with fail
  refine (HMY.out _).mono ?_
  rintro e w3 ⟨rfl, e3⟩
  rw [e3]
  clear e3
  go_wp2_with fail
  refine (HBE.out _).mono ?_
  rintro e w4 ⟨rfl, t4⟩
  have PT := Lib.hid (PT.out.pure t4)
  clear t4
  go_wp2_with fail
  refine (HH.out _).mono ?_
  rintro e w5 ⟨rfl, t5⟩
  have PT := Lib.hid (PT.out.pure t5)
  clear t5
  go_wp2_with fail
  refine (HDG.out _).mono ?_
  rintro e w6 ⟨r, rfl, hr, t6⟩
  obtain ⟨ra, rc, rfl, _⟩ := ownsRow_shape hr
  obtain ⟨gd, rfl⟩ : ∃ gd, ra = some ⟨gd, 0, none⟩ := by
    rcases hr.2 with ⟨_, h0⟩ | ⟨g, cap, cur, e, _⟩
    · have := HPP.out; omega
    · simp only [Value.slice.injEq] at e
      exact ⟨g, e.1⟩
  have hrg : w6.rangeAt gd 0 (intsN DL) := fun j u hj => by
    have := hr.cells (g := gd) rfl j u hj
    rwa [Addr.add_mid] at this
  have PT := Lib.hid (PT.out.pure t6); have RG := Lib.hid hrg
  clear t6 hr hrg
  go_wp2_with fail
  refine (HBK.out _).mono ?_
  rintro e w7 ⟨rfl, t7⟩
  have PT := Lib.hid (PT.out.pure t7)
  have RG := Lib.hid (t7.range RG.out (fun e => e))
  clear t7
  have hcv := Lib.run_convert_string_bytes (P := Try.prog) w7 9 65 5 (bstr O0) Try.underlying9 Try.underlying65 Try.underlying5
  rw [zO0] at hcv
  have hO := HOB.out w7
  generalize grownCap w7 36 0 5 = cap at hcv hO
  have hB : Pure w7 (Lib.bytesWorld w7 5 (bstr O0)) := bytesWorld_turn (Turn.refl _ _) _ _
  have hgl : gd < w7.heap.size := by
    have hl : 0 < (intsN DL).length := by rw [intsN_length]; have := HDL.out.1; have := HPP.out; omega
    have := RG.out 0 _ (List.getElem?_eq_getElem hl)
    exact World.block_lt_of_cell? w7 _ this
  have HG := Lib.hid PT.out.size
  have HLT := Lib.hid (fun n (h : w.heap.size ≤ n) => h)
  have PT := Lib.hid (PT.out.pure hB); have RG := Lib.hid (hB.range RG.out (fun e => e))
  have HGD := Lib.hid (show gd ≠ w7.heap.size by omega)
  have HGL := Lib.hid (show gd < (Lib.bytesWorld w7 5 (bstr O0)).heap.size by have := hB.size; omega)
  have HO := Lib.hid hO
  clear hB hO hgl HLT
  generalize Lib.bytesWorld w7 5 (bstr O0) = w8 at *
  generalize w7.heap.size = gb at *
  go_wp2
  clear hcv
  go_loopw [18, 19] (fun v i wr => ∃ (k g c : Nat), k ≤ pp ∧ v = .slice (some ⟨g, 0, none⟩) (36 + 32 * k) c ∧ i = .int .i64 (k : Int) ∧ Hid (ownsA wr 5 (.slice (some ⟨g, 0, none⟩) (36 + 32 * k) c) (36 + 32 * k) (O0 ++ chainsV head (fun _ => 0) (fun i => DL.getD i 0) (fun i => startV head i seed) k)) ∧ Hid (w.heap.size ≤ g) ∧ Hid (gd ≠ g) ∧ Hid (gd < wr.heap.size) ∧ Hid (wr.rangeAt gd 0 (intsN DL)) ∧ Hid (Pure w wr)) (fun _ i _ => pp - (intOf i).toNat)
  case atStart => exact ⟨0, gb, cap, by omega, rfl, rfl, Lib.hid (by rw [chainsV, List.append_nil]; exact HO.out), HG, HGD, HGL, RG, PT⟩
  case round =>
    obtain ⟨k, g, c, hk, rfl, rfl, HO, HG, HGD, HGL, HRG, HP⟩ := hrel
    by_cases hlt : k < pp
    · have q1 : (k : Int) < pp := by omega
      have i1 : IntKind.i64.wrap ((k : Int) + 1) = ((k + 1 : Nat) : Int) := by rw [IntWalk.i64_in _ (by omega)]; omega
      have hkD : k < DL.length := by have := HDL.out.1; omega
      have hcell : wr.cell? ⟨gd, 0 + k, none⟩ = some (.int .i64 ((DL.getD k 0 : Nat) : Int)) := HRG.out k _ (by simp [intsN, List.getD, hkD])
      rw [Nat.zero_add] at hcell
      have hdk : DL.getD k 0 < 16 := by
        have := HDL.out.2 (DL.getD k 0) (by rw [List.getD_eq_getElem?_getD, List.getElem?_eq_getElem hkD]; simp)
        omega
      have hcp := fun W => HPV.out W k hlt
      have hcs := fun W => HST.out W k hlt (DL.getD k 0) hdk
      simp only [Nat.zero_add] at hcs
      have hnext : (O0 ++ chainsV head (fun _ => 0) (fun i => DL.getD i 0) (fun i => startV head i seed) k) ++ stepsV head k 0 (DL.getD k 0) (startV head k seed) = O0 ++ chainsV head (fun _ => 0) (fun i => DL.getD i 0) (fun i => startV head i seed) (k + 1) := by rw [List.append_assoc]; rfl
      have hyl : (stepsV head k 0 (DL.getD k 0) (startV head k seed)).length = 32 := stepsV_length _ _ _ _ _ (startV_length _ _ _)
      generalize stepsV head k 0 (DL.getD k 0) (startV head k seed) = y at hcs hnext hyl
      generalize startV head k seed = x at hcs hcp
      generalize DL.getD k 0 = dk at hcell hdk hcs
      have hnn : 36 + 32 * k + y.length = 36 + 32 * (k + 1) := by omega
      have HNX := Lib.hid (And.intro hnext hnn); have HCP := Lib.hid hcp; have HCS := Lib.hid hcs; have HYL := Lib.hid hyl
      obtain ⟨n, hn⟩ : ∃ n, n = 36 + 32 * k := ⟨_, rfl⟩
      rw [← hn] at HO HNX ⊢
      have nb : n ≤ 10000 := by omega
      have HN := Lib.hid hn
      clear hnext hnn hcp hcs hyl hn hkD
      go_wp2_with fail
      refine wp_region_held_drew (S := fun w' => w'.cell? ⟨gd, k, none⟩ = some (.int .i64 (dk : Int))) (by kernel_rfl) (show wr.drew.cell? ⟨gd, k, none⟩ = some (.int .i64 (dk : Int)) from hcell) (fun hS => ?_)
      have HP := Lib.hid HP.out.drew
      have HRG := Lib.hid (show wr.drew.rangeAt gd 0 (intsN DL) from HRG.out); have HO := Lib.hid (show ownsA wr.drew _ _ _ _ from HO.out); have HGL := Lib.hid (show gd < wr.drew.heap.size from HGL.out)
      have HS := Lib.hid hS
      clear hS hcell
      generalize wr.drew = wr at *
      refine wpAnyH_take (i := 0) (v := ?_) rfl (by kernel_rfl) (by kernel_rfl) (by kernel_rfl) (fun _ _ _ h => h) (Or.inl ⟨by rfl, fun w hSw => ?_⟩) HS.out ?_
      rotate_left
      · first | (go_simp; done) | (go_simp; with_reducible rfl)
      simp only [AP]
      refine wpAnyH_take (i := 1) (v := ?_) rfl (by kernel_rfl) (by kernel_rfl) (by kernel_rfl) (fun _ _ _ h => h) (Or.inl ⟨by rfl, fun w hSw => ?_⟩) HS.out ?_
      rotate_left
      · first | (go_simp; done) | (go_simp; with_reducible rfl)
      simp only [AP]
      refine wpAnyH_take (i := 2) (v := ?_) rfl (by kernel_rfl) (by kernel_rfl) (by kernel_rfl) (fun _ _ _ h => h) (Or.inl ⟨by rfl, fun w hSw => ?_⟩) HS.out ?_
      rotate_left
      · first | (go_simp; done) | (go_simp; with_reducible rfl)
      simp only [AP]
      refine wpAnyH_take (i := 3) (v := ?_) rfl (by kernel_rfl) (by kernel_rfl) (by kernel_rfl) (fun _ _ _ h => h) (Or.inl ⟨by rfl, fun w hSw => ?_⟩) HS.out ?_
      rotate_left
      · first | (go_simp; done) | (go_simp; with_reducible rfl)
      simp only [AP]
      refine wpAnyH_take (i := 4) (v := ?_) rfl (by kernel_rfl) (by kernel_rfl) (by kernel_rfl) (fun _ _ _ h => h) (Or.inl ⟨by rfl, fun w hSw => ?_⟩) HS.out ?_
      rotate_left
      · first | (go_simp; done) | (go_simp; with_reducible rfl)
      simp only [AP]
      refine wpAnyH_take (i := 5) (v := ?_) rfl (by kernel_rfl) (by kernel_rfl) (by kernel_rfl) (fun _ _ _ h => h) (Or.inl ⟨by rfl, fun w hSw => ?_⟩) HS.out ?_
      rotate_left
      · first | (go_simp; done) | (go_simp; with_reducible rfl)
      simp only [AP]
      refine wpAnyH_take (i := 6) (v := ?_) rfl (by kernel_rfl) (by kernel_rfl) (by kernel_rfl) (fun _ _ _ h => h) (Or.inl ⟨by rfl, fun w hSw => ?_⟩) HS.out ?_
      rotate_left
      · first | (go_simp; done) | (go_simp; with_reducible rfl)
      simp only [AP]
      refine wpAnyH_take (i := 7) (v := ?_) rfl (by kernel_rfl) (by kernel_rfl) (by kernel_rfl) (fun _ _ _ h => h) (Or.inl ⟨by rfl, fun w hSw => ?_⟩) HS.out ?_
      rotate_left
      · first | (go_simp; done) | (go_simp; with_reducible rfl)
      simp only [AP]
      refine wpAnyH_take (i := 8) (v := ?_) rfl (by kernel_rfl) (by kernel_rfl) (by kernel_rfl) (fun _ _ _ h => h) (Or.inl ⟨by rfl, fun w hSw => ?_⟩) HS.out ?_
      rotate_left
      · first | (go_simp; done) | (go_simp; with_reducible rfl)
      simp only [AP]
      refine wpAnyH_take (i := 9) (v := ?_) rfl (by kernel_rfl) (by kernel_rfl) (by kernel_rfl) (fun _ _ _ h => h) (Or.inl ⟨by rfl, fun w hSw => ?_⟩) HS.out ?_
      rotate_left
      · first | (go_simp; done) | (go_simp; with_reducible rfl)
      simp only [AP]
      refine wpAnyH_step (i := 10) (by kernel_rfl) rfl fun K hK => ?_
      go_simp
      refine (HCP.out _).mono ?_
      rintro e w6 ⟨rfl, t6⟩
      have HP := Lib.hid (HP.out.pure t6); have HRG := Lib.hid (t6.range HRG.out (fun e => e)); have HO := Lib.hid (t6.ownA HO.out (fun _ _ e => e)); have HS := Lib.hid (t6.cell HS.out (fun e => e)); have HGL := Lib.hid (Nat.lt_of_lt_of_le HGL.out t6.size)
      clear t6
      refine hK.out _ _ HS.out ?_
      clear hK K
      try simp only [AP]
      refine wpAnyH_step (i := 11) (by kernel_rfl) rfl fun K hK => ?_
      go_simp
      refine (HCS.out _).mono ?_
      rintro e w7 ⟨rfl, t7⟩
      have HP := Lib.hid (HP.out.pure t7); have HRG := Lib.hid (t7.range HRG.out (fun e => e)); have HO := Lib.hid (t7.ownA HO.out (fun _ _ e => e)); have HS := Lib.hid (t7.cell HS.out (fun e => e)); have HGL := Lib.hid (Nat.lt_of_lt_of_le HGL.out t7.size)
      clear t7
      refine hK.out _ _ HS.out ?_
      clear hK K
      try simp only [AP]
      refine wpAnyH_step (i := 12) (by kernel_rfl) rfl fun K hK => ?_
      rw [if_pos (by rfl)]
      refine wp_appendA _ _ rfl w.heap.size _ n _ rfl HO.out (by intro q hq; cases hq; exact HG.out) HP.out.size y rfl (by have := HYL.out; omega) ?_
      intro g' c' w8 o8 b8 t8 ne8 ob8
      rw [HNX.out.1, HNX.out.2] at o8
      have HP8 := Lib.hid (HP.out.trans t8 fun x hx e => by omega : Pure w w8)
      have HRG8 := Lib.hid (show w8.rangeAt gd 0 (intsN DL) from fun j v hj => by
        have hc := HRG.out j v hj
        have hlt := World.block_lt_of_cell? _ _ hc
        have hx := Array.getElem?_eq_getElem hlt
        exact (World.cell?_of_block (by rw [ob8 gd _ (fun e => HGD.out (Option.some.inj e).symm) hx, hx])).trans hc)
      have HGD8 := Lib.hid (ne8 gd (fun e => HGD.out (Option.some.inj e).symm) HGL.out)
      have HG8 := Lib.hid b8
      rw [HNX.out.2]
      have HO8 := Lib.hid o8
      have OB8 := Lib.hid ob8
      have HGL8 := Lib.hid (Nat.lt_of_lt_of_le HGL.out t8.size)
      clear t8 o8 b8 ne8 ob8
      have HS8 := Lib.hid (show w8.cell? ⟨gd, k, none⟩ = some (.int .i64 (dk : Int)) from by
        have hc := HS.out
        have hx := Array.getElem?_eq_getElem HGL.out
        exact (World.cell?_of_block (by rw [OB8.out gd _ (fun e => HGD.out (Option.some.inj e).symm) hx, hx])).trans hc)
      refine hK.out _ _ HS8.out ?_
      clear hK K
      try simp only [AP]
      refine wpAnyH_take (i := 13) (v := ?_) rfl (by kernel_rfl) (by kernel_rfl) (by kernel_rfl) (fun _ _ _ h => h) (Or.inl ⟨by rfl, fun w hSw => ?_⟩) HS8.out ?_
      rotate_left
      · first | (go_simp; done) | (go_simp; with_reducible rfl)
      simp only [AP]
      refine wpAnyH_done (by kernel_rfl) ?_ _
      go_wp2
      exact ⟨⟨k + 1, g', c', by omega, rfl, by first | rfl | trivial, HO8, HG8, HGD8, HGL8, HRG8, HP8⟩, by simp [intOf]; omega⟩
    · have q1 : ¬ ((k : Int) < pp) := by omega
      obtain rfl : k = pp := by omega
      rw [← HSG.out.1] at HO
      obtain ⟨gx, cx, ex, hcell⟩ := ownsA_shape HO.out
      obtain ⟨rfl, rfl⟩ : gx = g ∧ cx = c := by simp only [Value.slice.injEq, Option.some.injEq, Addr.mk.injEq] at ex; exact ⟨ex.1.1.symm, ex.2.2.symm⟩
      have hcv := conv_cells (P := Try.prog) wr 65 5 9 Try.underlying65 Try.underlying5 Try.underlying9 gx 0 (36 + 32 * k) cx SG HSG.out.2 hcell
      obtain ⟨n, hn⟩ : ∃ n, n = 36 + 32 * k := ⟨_, rfl⟩
      rw [← hn] at hcv ⊢
      clear hcell ex HO hn
      go_wp2
      go_ret2
      exact ⟨rfl, HP.out⟩

set_option maxRecDepth 100000 in
set_option maxHeartbeats 4000000 in
theorem ROtsSign_4 (w : World) (id seed msg : List UInt8) (q : Nat) (hid : id.length = 16) (hq : q ≤ 4294967295) (hsd : seed.length = 32) (hm : msg.length ≤ 65536) :
    Calls Try.prog 89 #[.int .i64 4, .string (bstr id), .int .i64 (q : Int), .string (bstr seed), .string (bstr msg)] w fun e w' => e = .returned (.tuple #[.string (bstr (otsSignV 4 8 34 0 (placeV id q) seed msg)), .int .i64 0]) ∧ Pure w w' := by
  have hpr : ∀ W, Calls Try.prog 91 #[.int .i64 4] W fun e w' => e = .returned (.tuple #[.int .i64 8, .int .i64 34, .int .i64 0]) ∧ w' = W := fun W => Params_any W 4
  have hmy := fun W => otsMay_any W id q
  rw [placeB_true hid hq] at hmy
  have hbe := fun W => Be_anyS q 4 W (by omega) (by omega)
  have hbl : (beB q 4).length = 4 := beB_length _ _
  have hphd : placeV id q = id ++ beB q 4 := rfl
  rw [hphd]
  generalize beB q 4 = bq at hbe hbl ⊢
  obtain ⟨head, hhead⟩ : ∃ head, head = id ++ bq := ⟨_, rfl⟩
  have headl : head.length = 16 + 4 := by rw [hhead, List.length_append]; first | rfl | omega | (simp; omega) | simp
  have ahead : bstr id ++ bstr bq = bstr head := by rw [hhead]; exact bstr_app id bq
  have zhead : (bstr head).size = 16 + 4 := by rw [bstr_size, headl]
  have nhead : ¬ (9223372036854775807 < 16 + 4) := by omega
  rw [← hhead]
  have z1 : (bstr id).size = 16 := by rw [bstr_size, hid]
  have z2 : (bstr bq).size = 4 := by rw [bstr_size, hbl]
  obtain ⟨A1, hA1⟩ : ∃ A1, A1 = head ++ [255, 253, 255] := ⟨_, rfl⟩
  have A1l : A1.length = 20 + 3 := by rw [hA1, List.length_append]; first | rfl | omega | (simp; omega) | simp
  have aA1 : bstr head ++ (⟨#[255, 253, 255]⟩ : ByteArray) = bstr A1 := by rw [hA1]; exact bstr_app head [255, 253, 255]
  have zA1 : (bstr A1).size = 20 + 3 := by rw [bstr_size, A1l]
  have nA1 : ¬ (9223372036854775807 < 20 + 3) := by omega
  obtain ⟨A2, hA2⟩ : ∃ A2, A2 = A1 ++ seed := ⟨_, rfl⟩
  have A2l : A2.length = 23 + 32 := by rw [hA2, List.length_append]; first | rfl | omega | (simp; omega) | simp
  have aA2 : bstr A1 ++ bstr seed = bstr A2 := by rw [hA2]; exact bstr_app A1 seed
  have zA2 : (bstr A2).size = 23 + 32 := by rw [bstr_size, A2l]
  have nA2 : ¬ (9223372036854775807 < 23 + 32) := by omega
  have z3 : (bstr seed).size = 32 := by rw [bstr_size, hsd]
  have hh := fun W => H_any W A2 (by omega)
  have hcV : otsCV head seed = shaV A2 := by rw [otsCV, hA2, hA1]; simp [show beB 65533 2 = [255, 253] from rfl]
  rw [← hcV] at hh
  have hcl : (otsCV head seed).length = 32 := shaV_length _
  obtain ⟨pp, hpp⟩ : ∃ pp : Nat, pp = 34 := ⟨_, rfl⟩
  have hsv : otsSignV 4 8 pp 0 head seed msg = beB 4 4 ++ otsCV head seed ++ chainsV head (fun _ => 0) (fun i => (digitsV 8 pp 0 (otsQV head (otsCV head seed) msg)).getD i 0) (fun i => startV head i seed) pp := rfl
  generalize otsCV head seed = c at hh hcl hsv
  have hdg := fun W => rdigits_4 W head c msg (by omega) hcl hm
  rw [← hpp] at hdg ⊢
  generalize otsQV head c msg = Q at hdg hsv
  have hdl := digitsV_length 8 pp 0 Q (by omega)
  have hdlt := digitsV_lt 8 pp 0 Q
  generalize digitsV 8 pp 0 Q = DL at hdg hdl hdlt hsv
  obtain ⟨NK, hNK⟩ : ∃ NK, NK = beB 4 4 := ⟨_, rfl⟩
  have hNKl : NK.length = 4 := by rw [hNK]; exact beB_length _ _
  obtain ⟨O0, hO0⟩ : ∃ O0, O0 = NK ++ c := ⟨_, rfl⟩
  have O0l : O0.length = 4 + 32 := by rw [hO0, List.length_append]; first | rfl | omega | (simp; omega) | simp
  have aO0 : bstr NK ++ bstr c = bstr O0 := by rw [hO0]; exact bstr_app NK c
  have zO0 : (bstr O0).size = 4 + 32 := by rw [bstr_size, O0l]
  have nO0 : ¬ (9223372036854775807 < 4 + 32) := by omega
  have zn : (bstr NK).size = 4 := by rw [bstr_size, hNKl]
  have zc : (bstr c).size = 32 := by rw [bstr_size, hcl]
  have zm := bstr_size msg
  have hbk : ∀ W, Calls Try.prog 37 #[.int .i64 4, .int .i64 4] W fun e w' => e = .returned (.string (bstr NK)) ∧ Pure W w' := fun W => by
    rw [hNK]
    exact Be_anyS 4 4 W (by omega) (by omega)
  rw [← hNK, ← hO0] at hsv
  obtain ⟨SG, hSG⟩ : ∃ SG, SG = O0 ++ chainsV head (fun _ => 0) (fun i => DL.getD i 0) (fun i => startV head i seed) pp := ⟨_, rfl⟩
  have hSGl : SG.length = 36 + 32 * pp := by rw [hSG, List.length_append, O0l, chainsV_length _ _ _ _ _ (fun i _ => startV_length _ _ _)]
  rw [hsv, ← hSG]
  have HSG := Lib.hid (And.intro hSG hSGl)
  clear hSG hSGl
  have hpv := fun W (k : Nat) (hk : k < pp) => private_any W head seed k (by omega) (by omega) (by omega)
  have hst := fun W (k : Nat) (hk : k < pp) (d : Nat) (hd : d < 256) => steps_any W head k 0 d (startV head k seed) (by omega) (by omega) (by omega) (startV_length _ _ _)
  have HPR := Lib.hid hpr; have HMY := Lib.hid hmy; have HBE := Lib.hid hbe; have HH := Lib.hid hh; have HDG := Lib.hid hdg; have HBK := Lib.hid hbk; have HPV := Lib.hid hpv; have HST := Lib.hid hst; have HPP := Lib.hid hpp; have HDL := Lib.hid (And.intro hdl hdlt)
  have hOB := fun W => ownsA_bytes W 5 O0 (by rw [O0l]; decide)
  rw [show O0.length = 36 from O0l] at hOB
  have HOB := Lib.hid hOB; have HO0 := Lib.hid O0l
  have hp1 : pp ≤ 67 := by omega
  have q5 : decide (65536 < (msg.length : Int)) = false := decide_eq_false (by omega)
  have q6 : decide (65536 < msg.length) = false := decide_eq_false (by omega)
  clear hpr hmy hbe hh hdg hbk hpv hst hdl hdlt hOB hphd hhead hA1 hA2 headl A1l A2l hcV hsv hNK hNKl hO0 O0l hpp hm
  go_enter Try.func89, Try.ntmps89
  have PT := Lib.hid (Turn.refl (fun _ => False) w)
  go_wp2_with fail
  refine (HPR.out _).mono ?_
  rintro e w2 ⟨rfl, e2⟩
  rw [e2]
  clear e2
  go_wp2_with fail
  refine (HMY.out _).mono ?_
  rintro e w3 ⟨rfl, e3⟩
  rw [e3]
  clear e3
  go_wp2_with fail
  refine (HBE.out _).mono ?_
  rintro e w4 ⟨rfl, t4⟩
  have PT := Lib.hid (PT.out.pure t4)
  clear t4
  go_wp2_with fail
  refine (HH.out _).mono ?_
  rintro e w5 ⟨rfl, t5⟩
  have PT := Lib.hid (PT.out.pure t5)
  clear t5
  go_wp2_with fail
  refine (HDG.out _).mono ?_
  rintro e w6 ⟨r, rfl, hr, t6⟩
  obtain ⟨ra, rc, rfl, _⟩ := ownsRow_shape hr
  obtain ⟨gd, rfl⟩ : ∃ gd, ra = some ⟨gd, 0, none⟩ := by
    rcases hr.2 with ⟨_, h0⟩ | ⟨g, cap, cur, e, _⟩
    · have := HPP.out; omega
    · simp only [Value.slice.injEq] at e
      exact ⟨g, e.1⟩
  have hrg : w6.rangeAt gd 0 (intsN DL) := fun j u hj => by
    have := hr.cells (g := gd) rfl j u hj
    rwa [Addr.add_mid] at this
  have PT := Lib.hid (PT.out.pure t6); have RG := Lib.hid hrg
  clear t6 hr hrg
  go_wp2_with fail
  refine (HBK.out _).mono ?_
  rintro e w7 ⟨rfl, t7⟩
  have PT := Lib.hid (PT.out.pure t7)
  have RG := Lib.hid (t7.range RG.out (fun e => e))
  clear t7
  have hcv := Lib.run_convert_string_bytes (P := Try.prog) w7 9 65 5 (bstr O0) Try.underlying9 Try.underlying65 Try.underlying5
  rw [zO0] at hcv
  have hO := HOB.out w7
  generalize grownCap w7 36 0 5 = cap at hcv hO
  have hB : Pure w7 (Lib.bytesWorld w7 5 (bstr O0)) := bytesWorld_turn (Turn.refl _ _) _ _
  have hgl : gd < w7.heap.size := by
    have hl : 0 < (intsN DL).length := by rw [intsN_length]; have := HDL.out.1; have := HPP.out; omega
    have := RG.out 0 _ (List.getElem?_eq_getElem hl)
    exact World.block_lt_of_cell? w7 _ this
  have HG := Lib.hid PT.out.size
  have HLT := Lib.hid (fun n (h : w.heap.size ≤ n) => h)
  have PT := Lib.hid (PT.out.pure hB); have RG := Lib.hid (hB.range RG.out (fun e => e))
  have HGD := Lib.hid (show gd ≠ w7.heap.size by omega)
  have HGL := Lib.hid (show gd < (Lib.bytesWorld w7 5 (bstr O0)).heap.size by have := hB.size; omega)
  have HO := Lib.hid hO
  clear hB hO hgl HLT
  generalize Lib.bytesWorld w7 5 (bstr O0) = w8 at *
  generalize w7.heap.size = gb at *
  go_wp2
  clear hcv
  go_loopw [18, 19] (fun v i wr => ∃ (k g c : Nat), k ≤ pp ∧ v = .slice (some ⟨g, 0, none⟩) (36 + 32 * k) c ∧ i = .int .i64 (k : Int) ∧ Hid (ownsA wr 5 (.slice (some ⟨g, 0, none⟩) (36 + 32 * k) c) (36 + 32 * k) (O0 ++ chainsV head (fun _ => 0) (fun i => DL.getD i 0) (fun i => startV head i seed) k)) ∧ Hid (w.heap.size ≤ g) ∧ Hid (gd ≠ g) ∧ Hid (gd < wr.heap.size) ∧ Hid (wr.rangeAt gd 0 (intsN DL)) ∧ Hid (Pure w wr)) (fun _ i _ => pp - (intOf i).toNat)
  case atStart => exact ⟨0, gb, cap, by omega, rfl, rfl, Lib.hid (by rw [chainsV, List.append_nil]; exact HO.out), HG, HGD, HGL, RG, PT⟩
  case round =>
    obtain ⟨k, g, c, hk, rfl, rfl, HO, HG, HGD, HGL, HRG, HP⟩ := hrel
    by_cases hlt : k < pp
    · have q1 : (k : Int) < pp := by omega
      have i1 : IntKind.i64.wrap ((k : Int) + 1) = ((k + 1 : Nat) : Int) := by rw [IntWalk.i64_in _ (by omega)]; omega
      have hkD : k < DL.length := by have := HDL.out.1; omega
      have hcell : wr.cell? ⟨gd, 0 + k, none⟩ = some (.int .i64 ((DL.getD k 0 : Nat) : Int)) := HRG.out k _ (by simp [intsN, List.getD, hkD])
      rw [Nat.zero_add] at hcell
      have hdk : DL.getD k 0 < 256 := by
        have := HDL.out.2 (DL.getD k 0) (by rw [List.getD_eq_getElem?_getD, List.getElem?_eq_getElem hkD]; simp)
        omega
      have hcp := fun W => HPV.out W k hlt
      have hcs := fun W => HST.out W k hlt (DL.getD k 0) hdk
      simp only [Nat.zero_add] at hcs
      have hnext : (O0 ++ chainsV head (fun _ => 0) (fun i => DL.getD i 0) (fun i => startV head i seed) k) ++ stepsV head k 0 (DL.getD k 0) (startV head k seed) = O0 ++ chainsV head (fun _ => 0) (fun i => DL.getD i 0) (fun i => startV head i seed) (k + 1) := by rw [List.append_assoc]; rfl
      have hyl : (stepsV head k 0 (DL.getD k 0) (startV head k seed)).length = 32 := stepsV_length _ _ _ _ _ (startV_length _ _ _)
      generalize stepsV head k 0 (DL.getD k 0) (startV head k seed) = y at hcs hnext hyl
      generalize startV head k seed = x at hcs hcp
      generalize DL.getD k 0 = dk at hcell hdk hcs
      have hnn : 36 + 32 * k + y.length = 36 + 32 * (k + 1) := by omega
      have HNX := Lib.hid (And.intro hnext hnn); have HCP := Lib.hid hcp; have HCS := Lib.hid hcs; have HYL := Lib.hid hyl
      obtain ⟨n, hn⟩ : ∃ n, n = 36 + 32 * k := ⟨_, rfl⟩
      rw [← hn] at HO HNX ⊢
      have nb : n ≤ 10000 := by omega
      have HN := Lib.hid hn
      clear hnext hnn hcp hcs hyl hn hkD
      go_wp2_with fail
      refine wp_region_held_drew (S := fun w' => w'.cell? ⟨gd, k, none⟩ = some (.int .i64 (dk : Int))) (by kernel_rfl) (show wr.drew.cell? ⟨gd, k, none⟩ = some (.int .i64 (dk : Int)) from hcell) (fun hS => ?_)
      have HP := Lib.hid HP.out.drew
      have HRG := Lib.hid (show wr.drew.rangeAt gd 0 (intsN DL) from HRG.out); have HO := Lib.hid (show ownsA wr.drew _ _ _ _ from HO.out); have HGL := Lib.hid (show gd < wr.drew.heap.size from HGL.out)
      have HS := Lib.hid hS
      clear hS hcell
      generalize wr.drew = wr at *
      refine wpAnyH_take (i := 0) (v := ?_) rfl (by kernel_rfl) (by kernel_rfl) (by kernel_rfl) (fun _ _ _ h => h) (Or.inl ⟨by rfl, fun w hSw => ?_⟩) HS.out ?_
      rotate_left
      · first | (go_simp; done) | (go_simp; with_reducible rfl)
      simp only [AP]
      refine wpAnyH_take (i := 1) (v := ?_) rfl (by kernel_rfl) (by kernel_rfl) (by kernel_rfl) (fun _ _ _ h => h) (Or.inl ⟨by rfl, fun w hSw => ?_⟩) HS.out ?_
      rotate_left
      · first | (go_simp; done) | (go_simp; with_reducible rfl)
      simp only [AP]
      refine wpAnyH_take (i := 2) (v := ?_) rfl (by kernel_rfl) (by kernel_rfl) (by kernel_rfl) (fun _ _ _ h => h) (Or.inl ⟨by rfl, fun w hSw => ?_⟩) HS.out ?_
      rotate_left
      · first | (go_simp; done) | (go_simp; with_reducible rfl)
      simp only [AP]
      refine wpAnyH_take (i := 3) (v := ?_) rfl (by kernel_rfl) (by kernel_rfl) (by kernel_rfl) (fun _ _ _ h => h) (Or.inl ⟨by rfl, fun w hSw => ?_⟩) HS.out ?_
      rotate_left
      · first | (go_simp; done) | (go_simp; with_reducible rfl)
      simp only [AP]
      refine wpAnyH_take (i := 4) (v := ?_) rfl (by kernel_rfl) (by kernel_rfl) (by kernel_rfl) (fun _ _ _ h => h) (Or.inl ⟨by rfl, fun w hSw => ?_⟩) HS.out ?_
      rotate_left
      · first | (go_simp; done) | (go_simp; with_reducible rfl)
      simp only [AP]
      refine wpAnyH_take (i := 5) (v := ?_) rfl (by kernel_rfl) (by kernel_rfl) (by kernel_rfl) (fun _ _ _ h => h) (Or.inl ⟨by rfl, fun w hSw => ?_⟩) HS.out ?_
      rotate_left
      · first | (go_simp; done) | (go_simp; with_reducible rfl)
      simp only [AP]
      refine wpAnyH_take (i := 6) (v := ?_) rfl (by kernel_rfl) (by kernel_rfl) (by kernel_rfl) (fun _ _ _ h => h) (Or.inl ⟨by rfl, fun w hSw => ?_⟩) HS.out ?_
      rotate_left
      · first | (go_simp; done) | (go_simp; with_reducible rfl)
      simp only [AP]
      refine wpAnyH_take (i := 7) (v := ?_) rfl (by kernel_rfl) (by kernel_rfl) (by kernel_rfl) (fun _ _ _ h => h) (Or.inl ⟨by rfl, fun w hSw => ?_⟩) HS.out ?_
      rotate_left
      · first | (go_simp; done) | (go_simp; with_reducible rfl)
      simp only [AP]
      refine wpAnyH_take (i := 8) (v := ?_) rfl (by kernel_rfl) (by kernel_rfl) (by kernel_rfl) (fun _ _ _ h => h) (Or.inl ⟨by rfl, fun w hSw => ?_⟩) HS.out ?_
      rotate_left
      · first | (go_simp; done) | (go_simp; with_reducible rfl)
      simp only [AP]
      refine wpAnyH_take (i := 9) (v := ?_) rfl (by kernel_rfl) (by kernel_rfl) (by kernel_rfl) (fun _ _ _ h => h) (Or.inl ⟨by rfl, fun w hSw => ?_⟩) HS.out ?_
      rotate_left
      · first | (go_simp; done) | (go_simp; with_reducible rfl)
      simp only [AP]
      refine wpAnyH_step (i := 10) (by kernel_rfl) rfl fun K hK => ?_
      go_simp
      refine (HCP.out _).mono ?_
      rintro e w6 ⟨rfl, t6⟩
      have HP := Lib.hid (HP.out.pure t6); have HRG := Lib.hid (t6.range HRG.out (fun e => e)); have HO := Lib.hid (t6.ownA HO.out (fun _ _ e => e)); have HS := Lib.hid (t6.cell HS.out (fun e => e)); have HGL := Lib.hid (Nat.lt_of_lt_of_le HGL.out t6.size)
      clear t6
      refine hK.out _ _ HS.out ?_
      clear hK K
      try simp only [AP]
      refine wpAnyH_step (i := 11) (by kernel_rfl) rfl fun K hK => ?_
      go_simp
      refine (HCS.out _).mono ?_
      rintro e w7 ⟨rfl, t7⟩
      have HP := Lib.hid (HP.out.pure t7); have HRG := Lib.hid (t7.range HRG.out (fun e => e)); have HO := Lib.hid (t7.ownA HO.out (fun _ _ e => e)); have HS := Lib.hid (t7.cell HS.out (fun e => e)); have HGL := Lib.hid (Nat.lt_of_lt_of_le HGL.out t7.size)
      clear t7
      refine hK.out _ _ HS.out ?_
      clear hK K
      try simp only [AP]
      refine wpAnyH_step (i := 12) (by kernel_rfl) rfl fun K hK => ?_
      rw [if_pos (by rfl)]
      refine wp_appendA _ _ rfl w.heap.size _ n _ rfl HO.out (by intro q hq; cases hq; exact HG.out) HP.out.size y rfl (by have := HYL.out; omega) ?_
      intro g' c' w8 o8 b8 t8 ne8 ob8
      rw [HNX.out.1, HNX.out.2] at o8
      have HP8 := Lib.hid (HP.out.trans t8 fun x hx e => by omega : Pure w w8)
      have HRG8 := Lib.hid (show w8.rangeAt gd 0 (intsN DL) from fun j v hj => by
        have hc := HRG.out j v hj
        have hlt := World.block_lt_of_cell? _ _ hc
        have hx := Array.getElem?_eq_getElem hlt
        exact (World.cell?_of_block (by rw [ob8 gd _ (fun e => HGD.out (Option.some.inj e).symm) hx, hx])).trans hc)
      have HGD8 := Lib.hid (ne8 gd (fun e => HGD.out (Option.some.inj e).symm) HGL.out)
      have HG8 := Lib.hid b8
      rw [HNX.out.2]
      have HO8 := Lib.hid o8
      have OB8 := Lib.hid ob8
      have HGL8 := Lib.hid (Nat.lt_of_lt_of_le HGL.out t8.size)
      clear t8 o8 b8 ne8 ob8
      have HS8 := Lib.hid (show w8.cell? ⟨gd, k, none⟩ = some (.int .i64 (dk : Int)) from by
        have hc := HS.out
        have hx := Array.getElem?_eq_getElem HGL.out
        exact (World.cell?_of_block (by rw [OB8.out gd _ (fun e => HGD.out (Option.some.inj e).symm) hx, hx])).trans hc)
      refine hK.out _ _ HS8.out ?_
      clear hK K
      try simp only [AP]
      refine wpAnyH_take (i := 13) (v := ?_) rfl (by kernel_rfl) (by kernel_rfl) (by kernel_rfl) (fun _ _ _ h => h) (Or.inl ⟨by rfl, fun w hSw => ?_⟩) HS8.out ?_
      rotate_left
      · first | (go_simp; done) | (go_simp; with_reducible rfl)
      simp only [AP]
      refine wpAnyH_done (by kernel_rfl) ?_ _
      go_wp2
      exact ⟨⟨k + 1, g', c', by omega, rfl, by first | rfl | trivial, HO8, HG8, HGD8, HGL8, HRG8, HP8⟩, by simp [intOf]; omega⟩
    · have q1 : ¬ ((k : Int) < pp) := by omega
      obtain rfl : k = pp := by omega
      rw [← HSG.out.1] at HO
      obtain ⟨gx, cx, ex, hcell⟩ := ownsA_shape HO.out
      obtain ⟨rfl, rfl⟩ : gx = g ∧ cx = c := by simp only [Value.slice.injEq, Option.some.injEq, Addr.mk.injEq] at ex; exact ⟨ex.1.1.symm, ex.2.2.symm⟩
      have hcv := conv_cells (P := Try.prog) wr 65 5 9 Try.underlying65 Try.underlying5 Try.underlying9 gx 0 (36 + 32 * k) cx SG HSG.out.2 hcell
      obtain ⟨n, hn⟩ : ∃ n, n = 36 + 32 * k := ⟨_, rfl⟩
      rw [← hn] at hcv ⊢
      clear hcell ex HO hn
      go_wp2
      go_ret2
      exact ⟨rfl, HP.out⟩
end Go.Proofs.Ytcfbmbhkdicpfaa
