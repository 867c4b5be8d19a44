/- Chapter 6: the reference's signatures. Keys of two levels: as arguments, compared. -/
import Derived.Test.YtcfbmbhkdicpfaaHss9
import Derived.Test.YtcfbmbhkdicpfaaHss4
import Derived.Test.YtcfbmbhkdicpfaaHss1
import Derived.Test.YtcfbmbhkdicpfaaFit
import Derived.OrdersHeld
namespace Go.Proofs.Ytcfbmbhkdicpfaa
open Go.RowKit
set_option maxRecDepth 100000

set_option maxHeartbeats 8000000 in
theorem RHSign_any (w : World) (k : LKey) (msg : List UInt8) : Calls Try.prog 14 #[.agg (lkC k).toArray, .string (bstr msg)] w fun e w' =>
    e = .returned (.tuple #[.string (bstr (hsignV k msg).1), .agg (lkC (hsignV k msg).2.1).toArray, .int .i64 (hsignV k msg).2.2]) ∧ Pure w w' := by
  have hmay := fun W => RHMay_any W k
  have hle := fun W => RHLeft_any W k
  have hpv : hleftV k = if hmayB k = true then 2 ^ (2 * k.height.toNat) - k.next else 0 := rfl
  have hup := fun W (h n : Nat) (hk : k.height = (h : Int)) (h5 : h ≤ 5) (hn : k.next = (n : Int)) => upperR_any W k h n hk h5 hn
  have hlw := fun W (h n : Nat) (hk : k.height = (h : Int)) (h5 : h ≤ 5) (hn : k.next = (n : Int)) (hn2 : n ≤ 1024) (hid : k.id.length = 16) (hsd : k.seed.length = 32) => lowerR_any W k h n hk h5 hn hn2 hid hsd
  have hlv : hsignV k msg = if hmayB k = true ∧ msg.length ≤ 65536 then
    if k.next = ((2 ^ (2 * k.height.toNat) : Nat) : Int) then ([], LKey0, 601)
    else (beB 1 4 ++ ((lsignV (upV k) (lpubV (lowV k)).1).1 ++ ((lpubV (lowV k)).1 ++ (lsignV (lowV k) msg).1)), { k with next := k.next + 1 }, 0)
  else ([], LKey0, 600) := rfl
  have HC := Lib.hid (fun W g => @hk_cells k W g)
  have hset : ∀ v : Int, (lkC k).take 4 ++ [Value.int .i64 v] ++ (lkC k).drop 5 = lkC { k with next := v } := fun v => rfl
  obtain ⟨C, hC⟩ : ∃ C, C = lkC k := ⟨_, rfl⟩
  rw [← hC] at HC hmay hle hup hlw hset ⊢
  have hCl : C.length = 5 := by rw [hC]; rfl
  have HCI : Hid ((Try.prog.info? 23).map (·.size) = some C.length) := Lib.hid (by rw [hCl]; exact infoHK)
  have HCL := Lib.hid hCl
  clear hC hCl
  obtain ⟨n, hn⟩ : ∃ n, n = msg.length := ⟨_, rfl⟩
  have zm : (bstr msg).size = n := by rw [bstr_size, hn]
  rw [← hn] at hlv
  have HN := Lib.hid hn
  clear hn
  by_cases hB : hmayB k = true
  · rw [hB] at hmay
    by_cases hm : n ≤ 65536
    · rw [if_pos ⟨hB, hm⟩] at hlv
      rw [if_pos hB] at hpv
      obtain ⟨o, h, q, h1, h2, h3, h4, h5, h6, h7, h8, h9⟩ := hmay_parts hB
      have hu := fun W => hup W h q h3 h5 h8
      have hl := fun W (hq : q ≤ 1024) => hlw W h q h3 h5 h8 hq h6 h7
      have huv : ({ k with next := ((q / 2 ^ h : Nat) : Int) } : LKey) = upV k := by rw [upV, upN, h3, h8]; rfl
      rw [huv] at hu
      obtain ⟨hb1, hb2⟩ := big_cast (2 * h) (by omega)
      rw [h3, Int.toNat_natCast, h8] at hlv
      rw [h3, Int.toNat_natCast, h8, hb1] at hpv
      obtain ⟨m, hmm⟩ : ∃ m, m = 2 ^ (2 * h) := ⟨_, rfl⟩
      rw [← hmm] at hpv hlv h9 hb2
      rw [hpv] at hle
      have hl := fun W => hl W (by omega)
      have d0 : decide ((65536 : Int) < n) = false := decide_eq_false (by omega)
      have d0n : decide (65536 < n) = false := decide_eq_false (by omega)
      have HM := Lib.hid hmay; have HLE := Lib.hid hle
      clear hup hlw hmay huv hb1 hmm hle hpv
      by_cases hlt : q = m
      · subst hlt
        rw [if_pos rfl] at hlv
        rw [hlv]
        have d1 : ((q : Int) - (q : Int) == 0) = true := by simp
        obtain ⟨ots, height, id, seed, next⟩ := k
        simp only at HC h8
        subst h8
        clear hlv hu hl h1 h2 h3 h4 h5 h6 h7 h9 hb2 hB hm hset
        go_enter Try.func14, Try.ntmps14
        go_wp2_with (refine wpList_boxV rfl 23 _ rfl C rfl ?_)
        intro g2 w1 e1 c1 t1 s1
        have lg2 : w.heap.size ≤ g2 := by omega
        clear e1 s1
        have D2 := Lib.hid c1; have PT := Lib.hid t1
        clear c1 t1
        go_wp2_with (refine wpList_allocZ rfl 23 rfl _ zeroHKs ?_)
        intro g5 w2 e2 c2 t2 s2
        have lg5 : w.heap.size ≤ g5 := by have := PT.out.size; omega
        have n25 : g2 ≠ g5 := by have := (Array.getElem?_eq_some_iff.1 D2.out).1; omega
        clear e2 s2
        have D5 := Lib.hid c2
        have D2 := Lib.hid (t2.obj D2.out (fun e => e))
        have PT := Lib.hid (PT.out.pure t2)
        clear c2 t2
        have R1 := range_of_row D2.out
        go_wp2_with (refine wpList_load_mid rfl 23 _ rfl g2 0 rfl C _ R1 Try.underlying23 rfl HCI.out ?_)
        clear R1
        refine (HM.out _).mono ?_
        rintro e w3 ⟨rfl, t3⟩
        have D2 := Lib.hid (t3.obj D2.out (fun e => e))
        have D5 := Lib.hid (t3.obj D5.out (fun e => e))
        have PT := Lib.hid (PT.out.pure t3)
        clear t3
        have R1 := range_of_row D2.out
        go_wp2_with (refine wpList_load_mid rfl 23 _ rfl g2 0 rfl C _ R1 Try.underlying23 rfl HCI.out ?_)
        clear R1
        refine (HLE.out _).mono ?_
        rintro e w4 ⟨rfl, t4⟩
        have D2 := Lib.hid (t4.obj D2.out (fun e => e))
        have D5 := Lib.hid (t4.obj D5.out (fun e => e))
        have PT := Lib.hid (PT.out.pure t4)
        clear t4
        go_wp2_with (refine wpList_store_blk rfl 23 _ _ rfl g5 _ (lkC LKey0) _ rfl rfl D5.out rfl infoHK (lkC_one _) ?_)
        intro w9 d9 t9 _
        have D5 := Lib.hid d9; have PT := Lib.hid (PT.out.trans t9 fun q hq e => by omega : Pure w w9)
        clear d9 t9
        go_wp2
        exact bodyPost_ret (v := .tuple #[.string (bstr []), .agg (lkC LKey0).toArray, .int .i64 601]) (results_tct Try.results14 _ _ g5 _ _ _ _ rfl D5.out Try.underlying23 rfl infoHK) rfl ⟨rfl, PT.out⟩
      · have hqne : ¬ ((q : Int) = (m : Int)) := by omega
        rw [if_neg hqne] at hlv
        have hUl := lsign_length (upV k) (lpubV (lowV k)).1
        have hLl := lsign_length (lowV k) msg
        have hPl := lpub_length (low_may hB)
        have hps := fun W => LmsPublicR_any W (lowV k)
        have hs1 := fun W => LmsSignR_any W (upV k) (lpubV (lowV k)).1
        have hs2 := fun W => LmsSignR_any W (lowV k) msg
        generalize upV k = U at *
        generalize lowV k = L at *
        generalize lpubV L = LP at *
        obtain ⟨lp, le⟩ := LP
        simp only at hPl hUl hlv hps hs1
        generalize lsignV U lp = S1 at *
        obtain ⟨s1, U1, e1⟩ := S1
        generalize lsignV L msg = S2 at *
        obtain ⟨s2, L1, e2⟩ := S2
        simp only at hUl hLl hlv hs1 hs2
        have hb := beB_length 1 4
        have hbe := fun W => Be_anyS 1 4 W (by omega) (by omega)
        generalize beB 1 4 = b1 at *
        have zb : (bstr b1).size = 4 := by rw [bstr_size, hb]
        have zl : (bstr lp).size = 56 := by rw [bstr_size, hPl]
        obtain ⟨n1, hn1⟩ : ∃ n1, n1 = s1.length := ⟨_, rfl⟩
        obtain ⟨n2, hn2⟩ : ∃ n2, n2 = s2.length := ⟨_, rfl⟩
        rw [← hn1] at hUl
        rw [← hn2] at hLl
        have z1 : (bstr s1).size = n1 := by rw [bstr_size, hn1]
        have z2 : (bstr s2).size = n2 := by rw [bstr_size, hn2]
        obtain ⟨A1, hA1⟩ : ∃ A1, A1 = b1 ++ s1 := ⟨_, rfl⟩
        have A1l : A1.length = 4 + n1 := by rw [hA1, List.length_append]; first | rfl | omega | (simp; omega) | simp
        have aA1 : bstr b1 ++ bstr s1 = bstr A1 := by rw [hA1]; exact bstr_app b1 s1
        have zA1 : (bstr A1).size = 4 + n1 := by rw [bstr_size, A1l]
        have nA1 : ¬ (9223372036854775807 < 4 + n1) := by omega
        obtain ⟨A2, hA2⟩ : ∃ A2, A2 = A1 ++ lp := ⟨_, rfl⟩
        have A2l : A2.length = (4 + n1) + 56 := by rw [hA2, List.length_append]; first | rfl | omega | (simp; omega) | simp
        have aA2 : bstr A1 ++ bstr lp = bstr A2 := by rw [hA2]; exact bstr_app A1 lp
        have zA2 : (bstr A2).size = (4 + n1) + 56 := by rw [bstr_size, A2l]
        have nA2 : ¬ (9223372036854775807 < (4 + n1) + 56) := by omega
        obtain ⟨A3, hA3⟩ : ∃ A3, A3 = A2 ++ s2 := ⟨_, rfl⟩
        have A3l : A3.length = (4 + n1 + 56) + n2 := by rw [hA3, List.length_append]; first | rfl | omega | (simp; omega) | simp
        have aA3 : bstr A2 ++ bstr s2 = bstr A3 := by rw [hA3]; exact bstr_app A2 s2
        have zA3 : (bstr A3).size = (4 + n1 + 56) + n2 := by rw [bstr_size, A3l]
        have nA3 : ¬ (9223372036854775807 < (4 + n1 + 56) + n2) := by omega
        have hA : b1 ++ (s1 ++ (lp ++ s2)) = A3 := by rw [hA3, hA2, hA1]; simp only [List.append_assoc]
        rw [hA] at hlv
        rw [hlv]
        have HAA := Lib.hid (And.intro aA1 (And.intro aA2 aA3)); have HZZ := Lib.hid (And.intro zb (And.intro zl (And.intro z1 z2))); have HZA := Lib.hid (And.intro zA1 (And.intro zA2 zA3)); have HNA := Lib.hid (And.intro nA1 (And.intro nA2 nA3))
        have HS1 := Lib.hid hs1; have HS2 := Lib.hid hs2; have HPS := Lib.hid hps; have HBE := Lib.hid hbe; have HU := Lib.hid hu; have HL := Lib.hid hl
        have d1 : ((m : Int) - (q : Int) == 0) = false := by simp; omega
        have HQI : Hid (IntKind.i64.wrap ((q : Int) + 1) = (q : Int) + 1) := Lib.hid (IntWalk.i64_in _ (by omega))
        obtain ⟨ots, height, id, seed, next⟩ := k
        simp only at HC h8 h3 hset
        subst h8
        have HH3 := Lib.hid h3
        have HSET' := Lib.hid (hset ((q : Int) + 1))
        clear hlv hu hl h1 h2 h3 h4 h5 h6 h7 h9 hb2 hB hm hset hqne hlt hps hs1 hs2 hbe hA hA1 hA2 hA3 hb hPl hn1 hn2 A1l A2l A3l aA1 aA2 aA3 zb zl z1 z2 zA1 zA2 zA3 nA1 nA2 nA3 hUl hLl
        go_enter Try.func14, Try.ntmps14
        go_wp2_with (refine wpList_boxV rfl 23 _ rfl C rfl ?_)
        intro g2 w1 e1 c1 t1 s1
        have lg2 : w.heap.size ≤ g2 := by omega
        clear e1 s1
        have D2 := Lib.hid c1; have PT := Lib.hid t1
        clear c1 t1
        go_wp2_with (refine wpList_allocZ rfl 23 rfl _ zeroHKs ?_)
        intro g5 w2 e2 c2 t2 s2
        have lg5 : w.heap.size ≤ g5 := by have := PT.out.size; omega
        have n25 : g2 ≠ g5 := by have := (Array.getElem?_eq_some_iff.1 D2.out).1; omega
        clear e2 s2
        have D5 := Lib.hid c2
        have D2 := Lib.hid (t2.obj D2.out (fun e => e))
        have PT := Lib.hid (PT.out.pure t2)
        clear c2 t2
        have R1 := range_of_row D2.out
        go_wp2_with (refine wpList_load_mid rfl 23 _ rfl g2 0 rfl C _ R1 Try.underlying23 rfl HCI.out ?_)
        clear R1
        refine (HM.out _).mono ?_
        rintro e w3 ⟨rfl, t3⟩
        have D2 := Lib.hid (t3.obj D2.out (fun e => e))
        have D5 := Lib.hid (t3.obj D5.out (fun e => e))
        have PT := Lib.hid (PT.out.pure t3)
        clear t3
        have R1 := range_of_row D2.out
        go_wp2_with (refine wpList_load_mid rfl 23 _ rfl g2 0 rfl C _ R1 Try.underlying23 rfl HCI.out ?_)
        clear R1
        refine (HLE.out _).mono ?_
        rintro e w4 ⟨rfl, t4⟩
        have D2 := Lib.hid (t4.obj D2.out (fun e => e))
        have D5 := Lib.hid (t4.obj D5.out (fun e => e))
        have PT := Lib.hid (PT.out.pure t4)
        clear t4
        have R1 := range_of_row D2.out
        go_wp2_with (refine wpList_load_mid rfl 23 _ rfl g2 0 rfl C _ R1 Try.underlying23 rfl HCI.out ?_)
        clear R1
        refine (HL.out _).mono ?_
        rintro e w5 ⟨rfl, t5⟩
        have D2 := Lib.hid (t5.obj D2.out (fun e => e))
        have D5 := Lib.hid (t5.obj D5.out (fun e => e))
        have PT := Lib.hid (PT.out.pure t5)
        clear t5
        go_wp2_with (refine wpList_allocZ rfl 68 rfl _ zeroLK ?_)
        intro g7 w6 e6 c6 t6 s6
        have lg7 : w.heap.size ≤ g7 := by have := PT.out.size; omega
        have n27 : g2 ≠ g7 := by have := (Array.getElem?_eq_some_iff.1 D2.out).1; omega
        have n57 : g5 ≠ g7 := by have := (Array.getElem?_eq_some_iff.1 D5.out).1; omega
        clear e6 s6
        have D2 := Lib.hid (t6.obj D2.out (fun e => e))
        have D5 := Lib.hid (t6.obj D5.out (fun e => e))
        have PT := Lib.hid (PT.out.pure t6)
        go_wp2_with (refine wpList_store_blk rfl 68 _ _ rfl g7 _ (lkC L) _ rfl rfl c6 rfl infoLK (lkC_one _) ?_)
        intro w7 d7 t7 _
        have D7 := Lib.hid d7
        have D2 := Lib.hid (t7.obj D2.out n27)
        have D5 := Lib.hid (t7.obj D5.out n57)
        have PT := Lib.hid (PT.out.newer t7 lg7)
        clear c6 t6 d7 t7
        have R1 := range_of_row D7.out
        go_wp2_with (refine wpList_load_mid rfl 68 _ rfl g7 0 rfl (lkC L) _ R1 Try.underlying68 rfl infoLK ?_)
        clear R1
        refine (HPS.out _).mono ?_
        rintro e w8 ⟨rfl, t8⟩
        have D2 := Lib.hid (t8.obj D2.out (fun e => e))
        have D5 := Lib.hid (t8.obj D5.out (fun e => e))
        have D7 := Lib.hid (t8.obj D7.out (fun e => e))
        have PT := Lib.hid (PT.out.pure t8)
        clear t8
        have R1 := range_of_row D2.out
        go_wp2_with (refine wpList_load_mid rfl 23 _ rfl g2 0 rfl C _ R1 Try.underlying23 rfl HCI.out ?_)
        clear R1
        refine (HU.out _).mono ?_
        rintro e w9 ⟨rfl, t9⟩
        have D2 := Lib.hid (t9.obj D2.out (fun e => e))
        have D5 := Lib.hid (t9.obj D5.out (fun e => e))
        have D7 := Lib.hid (t9.obj D7.out (fun e => e))
        have PT := Lib.hid (PT.out.pure t9)
        clear t9
        go_wp2_with fail
        refine (HS1.out _).mono ?_
        rintro e w10 ⟨rfl, t10⟩
        have D2 := Lib.hid (t10.obj D2.out (fun e => e))
        have D5 := Lib.hid (t10.obj D5.out (fun e => e))
        have D7 := Lib.hid (t10.obj D7.out (fun e => e))
        have PT := Lib.hid (PT.out.pure t10)
        clear t10
        go_wp2_with (refine wpList_allocZ rfl 68 rfl _ zeroLK ?_)
        intro g11 w11 e11 c11 t11 s11
        have lg11 : w.heap.size ≤ g11 := by have := PT.out.size; omega
        have n211 : g2 ≠ g11 := by have := (Array.getElem?_eq_some_iff.1 D2.out).1; omega
        have n511 : g5 ≠ g11 := by have := (Array.getElem?_eq_some_iff.1 D5.out).1; omega
        have n711 : g7 ≠ g11 := by have := (Array.getElem?_eq_some_iff.1 D7.out).1; omega
        clear e11 s11
        have D2 := Lib.hid (t11.obj D2.out (fun e => e))
        have D5 := Lib.hid (t11.obj D5.out (fun e => e))
        have D7 := Lib.hid (t11.obj D7.out (fun e => e))
        have PT := Lib.hid (PT.out.pure t11)
        go_wp2_with (refine wpList_store_blk rfl 68 _ _ rfl g11 _ (lkC U1) _ rfl rfl c11 rfl infoLK (lkC_one _) ?_)
        intro w12 d12 t12 _
        have D11 := Lib.hid d12
        have D2 := Lib.hid (t12.obj D2.out n211)
        have D5 := Lib.hid (t12.obj D5.out n511)
        have D7 := Lib.hid (t12.obj D7.out n711)
        have PT := Lib.hid (PT.out.newer t12 lg11)
        clear c11 t11 d12 t12
        have R1 := range_of_row D7.out
        go_wp2_with (refine wpList_load_mid rfl 68 _ rfl g7 0 rfl (lkC L) _ R1 Try.underlying68 rfl infoLK ?_)
        clear R1
        refine (HS2.out _).mono ?_
        rintro e w13 ⟨rfl, t13⟩
        have D2 := Lib.hid (t13.obj D2.out (fun e => e))
        have D5 := Lib.hid (t13.obj D5.out (fun e => e))
        have PT := Lib.hid (PT.out.pure t13)
        clear t13
        go_wp2_with (refine wpList_allocZ rfl 68 rfl _ zeroLK ?_)
        intro g14 w14 e14 c14 t14 s14
        have lg14 : w.heap.size ≤ g14 := by have := PT.out.size; omega
        have n214 : g2 ≠ g14 := by have := (Array.getElem?_eq_some_iff.1 D2.out).1; omega
        have n514 : g5 ≠ g14 := by have := (Array.getElem?_eq_some_iff.1 D5.out).1; omega
        clear e14 s14
        have D2 := Lib.hid (t14.obj D2.out (fun e => e))
        have D5 := Lib.hid (t14.obj D5.out (fun e => e))
        have PT := Lib.hid (PT.out.pure t14)
        go_wp2_with (refine wpList_store_blk rfl 68 _ _ rfl g14 _ (lkC L1) _ rfl rfl c14 rfl infoLK (lkC_one _) ?_)
        intro w15 d15 t15 _
        have D14 := Lib.hid d15
        have D2 := Lib.hid (t15.obj D2.out n214)
        have D5 := Lib.hid (t15.obj D5.out n514)
        have PT := Lib.hid (PT.out.newer t15 lg14)
        clear c14 t14 d15 t15
        obtain ⟨k0, k1, k2, k3, k4⟩ := HC.out _ _ D2.out
        have fz : w15.frozen? ⟨g2, 4, none⟩ = false := frozen_of_row _ g2 4 _ _ D2.out
        obtain ⟨d2, t2, _⟩ := setAt (i := 4) (v := .int .i64 ((q : Int) + 1)) D2.out (by rw [HCL.out]; omega)
        rw [HSET'.out] at d2
        have D5 := Lib.hid (t2.obj D5.out (Ne.symm n25)); have D2 := Lib.hid d2; have PT := Lib.hid (PT.out.newer t2 lg2)
        have hqi := HQI.out
        clear d2 t2
        go_wp2_with fail
        generalize w15.setCell ⟨g2, 4, none⟩ (.int .i64 ((q : Int) + 1)) = W4 at *
        clear k0 k1 k2 k3 k4 fz hqi
        obtain ⟨k', hk'⟩ : ∃ k' : LKey, k' = { ots := ots, height := height, id := id, seed := seed, next := (q : Int) + 1 } := ⟨_, rfl⟩
        rw [← hk'] at D2
        have HKk := Lib.hid hk'
        clear hk'
        obtain ⟨aA1, aA2, aA3⟩ := HAA.out; obtain ⟨zb, zl, z1, z2⟩ := HZZ.out; obtain ⟨zA1, zA2, zA3⟩ := HZA.out; obtain ⟨nA1, nA2, nA3⟩ := HNA.out
        go_wp2_with fail
        refine wp_region_G (S := fun w' => Turn (fun k => k = g5) W4 w' ∧ Held [(g2, Obj.cells (lkC k').toArray 23 (0, 0))] w') (T := StoreAt 9 g5 (Obj.cells (lkC LKey0).toArray 23 (0, 0)) (Obj.cells (lkC k').toArray 23 (0, 0))) (by kernel_rfl) ⟨(Turn.refl _ _).drew, held_cons (show W4.drew.heap[_]? = _ from D2.out) (held_nil _)⟩ (show W4.drew.heap[g5]? = _ from D5.out) ?_
        have HG := Grow.store W4 [(g2, Obj.cells (lkC k').toArray 23 (0, 0))] 9 g5 (Obj.cells (lkC LKey0).toArray 23 (0, 0)) (Obj.cells (lkC k').toArray 23 (0, 0))
        refine atN 0 ?_
        refine anyG_c HG (fun w hSw => HBE.out w) rfl (by kernel_rfl) (fun _ _ _ h => h) (StoreAt.ins (by decide)) (by rfl) (fun w hSw => by go_simp; first | done | with_reducible rfl) ?_
        simp only [Nat.reduceAdd, AP]
        iterate 6
          refine anyG_y HG (v := ?_) rfl (by kernel_rfl) (fun _ _ _ h => h) (StoreAt.ins (by decide)) (Or.inl ⟨by rfl, fun w hSw => ?_⟩) ?_
          rotate_left
          · skip
            first | (go_simp; done) | (go_simp; with_reducible rfl)
          simp only [Nat.reduceAdd, AP]
        refine anyG_take HG (i := 7) (v := Value.agg (lkC k').toArray) rfl (by kernel_rfl) (by kernel_rfl) (by kernel_rfl) (fun _ _ _ h => h) (StoreAt.ins (by decide)) (yieldsIf_load_mid (by rfl) 23 _ rfl g2 0 rfl (lkC k') _ (fun w hSw => range_of_row hSw.2.head) Try.underlying23 rfl infoHK) ?_
        simp only [AP]
        refine anyG_take HG (i := 8) (v := ?_) rfl (by kernel_rfl) (by kernel_rfl) (by kernel_rfl) (fun _ _ _ h => h) (StoreAt.ins (by decide)) (Or.inl ⟨by rfl, fun w hSw => ?_⟩) ?_
        rotate_left
        · skip
          first | (go_simp; done) | (go_simp; with_reducible rfl)
        simp only [AP]
        refine anyG_store (i := 9) (by kernel_rfl) rfl rfl rfl rfl rfl rfl infoHK (lkC_one _) (by intro p hp; rcases List.mem_singleton.1 hp with rfl; exact n25) ?_
        simp only [Act.put]
        refine anyG_take HG (i := 10) (v := ?_) rfl (by kernel_rfl) (by kernel_rfl) (by kernel_rfl) (fun _ _ _ h => h) (StoreAt.ins (by decide)) (Or.inl ⟨by rfl, fun w hSw => ?_⟩) ?_
        rotate_left
        · skip
          first | (go_simp; done) | (go_simp; with_reducible rfl)
        simp only [AP]
        refine anyG_done (by kernel_rfl) (fun w20 hS hT => ?_) _
        obtain ⟨hpS, hS⟩ := hS
        clear HG
        have PT := Lib.hid (PT.out.newer hpS lg5)
        have D5 := Lib.hid (show w20.heap[g5]? = _ from hT)
        clear hS hT hpS
        go_wp2
        exact bodyPost_ret (v := .tuple #[.string (bstr A3), .agg (lkC k').toArray, .int .i64 0]) (results_tct Try.results14 _ _ g5 _ _ _ _ rfl D5.out Try.underlying23 rfl infoHK) rfl ⟨by rw [HKk.out, HH3.out], PT.out⟩
    · rw [if_neg (fun h => hm h.2)] at hlv
      rw [hlv]
      have HM := Lib.hid hmay
      have d0 : decide ((65536 : Int) < n) = true := decide_eq_true (by omega)
      have d0n : decide (65536 < n) = true := decide_eq_true (by omega)
      clear hmay hB hlv hm hset hle hup hlw hpv
      go_enter Try.func14, Try.ntmps14
      go_wp2_with (refine wpList_boxV rfl 23 _ rfl C rfl ?_)
      intro g2 w1 e1 c1 t1 s1
      have lg2 : w.heap.size ≤ g2 := by omega
      clear e1 s1
      have D2 := Lib.hid c1; have PT := Lib.hid t1
      clear c1 t1
      go_wp2_with (refine wpList_allocZ rfl 23 rfl _ zeroHKs ?_)
      intro g5 w2 e2 c2 t2 s2
      have lg5 : w.heap.size ≤ g5 := by have := PT.out.size; omega
      have n25 : g2 ≠ g5 := by have := (Array.getElem?_eq_some_iff.1 D2.out).1; omega
      clear e2 s2
      have D5 := Lib.hid c2
      have D2 := Lib.hid (t2.obj D2.out (fun e => e))
      have PT := Lib.hid (PT.out.pure t2)
      clear c2 t2
      have R1 := range_of_row D2.out
      go_wp2_with (refine wpList_load_mid rfl 23 _ rfl g2 0 rfl C _ R1 Try.underlying23 rfl HCI.out ?_)
      clear R1
      refine (HM.out _).mono ?_
      rintro e w3 ⟨rfl, t3⟩
      have D2 := Lib.hid (t3.obj D2.out (fun e => e))
      have D5 := Lib.hid (t3.obj D5.out (fun e => e))
      have PT := Lib.hid (PT.out.pure t3)
      clear t3
      go_wp2_with (refine wpList_store_blk rfl 23 _ _ rfl g5 _ (lkC LKey0) _ rfl rfl D5.out rfl infoHK (lkC_one _) ?_)
      intro w9 d9 t9 _
      have D5 := Lib.hid d9; have PT := Lib.hid (PT.out.trans t9 fun q hq e => by omega : Pure w w9)
      clear d9 t9
      go_wp2
      exact bodyPost_ret (v := .tuple #[.string (bstr []), .agg (lkC LKey0).toArray, .int .i64 600]) (results_tct Try.results14 _ _ g5 _ _ _ _ rfl D5.out Try.underlying23 rfl infoHK) rfl ⟨rfl, PT.out⟩
  · rw [if_neg (fun h => hB h.1)] at hlv
    rw [hlv]
    have hB2 : hmayB k = false := by simpa using hB
    rw [hB2] at hmay
    have HM := Lib.hid hmay
    clear hmay hB hB2 hlv hset hle hup hlw hpv
    go_enter Try.func14, Try.ntmps14
    go_wp2_with (refine wpList_boxV rfl 23 _ rfl C rfl ?_)
    intro g2 w1 e1 c1 t1 s1
    have lg2 : w.heap.size ≤ g2 := by omega
    clear e1 s1
    have D2 := Lib.hid c1; have PT := Lib.hid t1
    clear c1 t1
    go_wp2_with (refine wpList_allocZ rfl 23 rfl _ zeroHKs ?_)
    intro g5 w2 e2 c2 t2 s2
    have lg5 : w.heap.size ≤ g5 := by have := PT.out.size; omega
    have n25 : g2 ≠ g5 := by have := (Array.getElem?_eq_some_iff.1 D2.out).1; omega
    clear e2 s2
    have D5 := Lib.hid c2
    have D2 := Lib.hid (t2.obj D2.out (fun e => e))
    have PT := Lib.hid (PT.out.pure t2)
    clear c2 t2
    have R1 := range_of_row D2.out
    go_wp2_with (refine wpList_load_mid rfl 23 _ rfl g2 0 rfl C _ R1 Try.underlying23 rfl HCI.out ?_)
    clear R1
    refine (HM.out _).mono ?_
    rintro e w3 ⟨rfl, t3⟩
    have D2 := Lib.hid (t3.obj D2.out (fun e => e))
    have D5 := Lib.hid (t3.obj D5.out (fun e => e))
    have PT := Lib.hid (PT.out.pure t3)
    clear t3
    go_wp2_with (refine wpList_store_blk rfl 23 _ _ rfl g5 _ (lkC LKey0) _ rfl rfl D5.out rfl infoHK (lkC_one _) ?_)
    intro w9 d9 t9 _
    have D5 := Lib.hid d9; have PT := Lib.hid (PT.out.trans t9 fun q hq e => by omega : Pure w w9)
    clear d9 t9
    go_wp2
    exact bodyPost_ret (v := .tuple #[.string (bstr []), .agg (lkC LKey0).toArray, .int .i64 600]) (results_tct Try.results14 _ _ g5 _ _ _ _ rfl D5.out Try.underlying23 rfl infoHK) rfl ⟨rfl, PT.out⟩
end Go.Proofs.Ytcfbmbhkdicpfaa
namespace Go.Proofs.Ytcfbmbhkdicpfaa
open Go.RowKit
set_option maxRecDepth 100000

theorem cellsHS : Try.prog.cellsOf 9 = 1 := by kernel_rfl
theorem cellsHI : Try.prog.cellsOf 3 = 1 := by kernel_rfl
theorem cellsHK : Try.prog.cellsOf 23 = 5 := by kernel_rfl
theorem list5H {α : Type} : ∀ {l : List α}, l.length = 5 → ∃ a b c d e, l = [a, b, c, d, e]
  | [a, b, c, d, e], _ => ⟨a, b, c, d, e, rfl⟩
/-- An argument that is a key. -/
theorem hk_open {H : Type} {enc : TypeId × Value → H} {w : World} {cs : List Value} (h : Fit enc Try.prog w 23 cs) : ∃ k : LKey, cs = lkC k ∧ (k.id.length ≤ 140737488351232 ∧ k.seed.length ≤ 140737488351232) := by
  obtain ⟨hl, hf⟩ := h.struct Try.underlying23
  rw [cellsHK] at hl
  obtain ⟨c0, c1, c2, c3, c4, rfl⟩ := list5H hl
  obtain ⟨a, ha, _⟩ := (hf 0 _ rfl).int Try.underlying3
  obtain ⟨b, hb, _⟩ := (hf 1 _ rfl).int Try.underlying3
  obtain ⟨c, hc, hc2⟩ := (hf 2 _ rfl).string Try.underlying9
  obtain ⟨d, hd, hd2⟩ := (hf 3 _ rfl).string Try.underlying9
  obtain ⟨e, he, _⟩ := (hf 4 _ rfl).int Try.underlying3
  simp [cellsHI, cellsHS] at ha hb hc hd he
  exact ⟨⟨a, b, c, d, e⟩, by simp [lkC, ha, hb, hc, hd, he], hc2, hd2⟩
theorem open_hk {H : Type} {enc : TypeId × Value → H} {w : World} {W : World} {r : Reach} {base : Nat} {v : Value} (h : Fit enc Try.prog w 23 v.cells.toList) (hv0 : Value.okWide Try.prog W r base 23 v) : ∃ k : LKey, v = .agg (lkC k).toArray ∧ (k.id.length ≤ 140737488351232 ∧ k.seed.length ≤ 140737488351232) := by
  obtain ⟨k, hk, h2⟩ := hk_open h
  simp only [Value.okWide, Try.underlying23] at hv0
  obtain ⟨cs, rfl, _, _⟩ := hv0
  refine ⟨k, ?_, h2⟩
  have : cs.toList = lkC k := hk
  rw [← this]
theorem eqFields_sameH {P : Program} (d : Nat) (xs : Array Value) : ∀ fs : List Field, (∀ f ∈ fs, ∃ v, (∀ W, (part f.type xs f.offset).run P W = .ok v W) ∧ ∀ W, (Op.equalIn d f.type v v).run P W = .ok true W) → ∀ W, (Op.eqFields d xs xs fs).run P W = .ok true W
  | [], _, W => by simp [Op.eqFields]
  | f :: fs, h, W => by
    obtain ⟨v, h1, h2⟩ := h f (by simp)
    have ih := eqFields_sameH d xs fs (fun g hg => h g (by simp [hg])) W
    simp only [Op.eqFields, Sem.run_ite]
    split
    · simp only [Sem.run_bind, h1, h2, Result.andThen_ok]
      simpa using ih
    · exact ih
theorem fieldsHK : (Try.prog.fieldsOf 23).toList.map (fun f => (f.type, f.offset)) = [(3, 0), (3, 1), (9, 2), (9, 3), (3, 4)] := by kernel_rfl
theorem strHK : Try.prog.underlying 23 = some (.struct (Try.prog.fieldsOf 23)) := by kernel_rfl
theorem heldHK : Try.prog.stoodInHeld 23 = false := by kernel_rfl
theorem grdHK : Try.prog.eqGuardType Try.prog.depth 23 = false := by kernel_rfl
theorem sameHK (k : LKey) (w : World) : (Op.equalIn 10000 23 (.agg (lkC k).toArray) (.agg (lkC k).toArray)).run Try.prog w = .ok true w := by
  rw [run_equalIn_agg w 9999 23 _ _ strHK heldHK]
  refine eqFields_sameH 9999 _ _ (fun f hf => ?_) w
  have hm : (f.type, f.offset) ∈ [(3, 0), (3, 1), (9, 2), (9, 3), (3, 4)] := by
    rw [← fieldsHK]
    exact List.mem_map.2 ⟨f, hf, rfl⟩
  have key : ∀ (j : Nat) (v : Int), (lkC k)[j]? = some (.int .i64 v) → f.type = 3 → f.offset = j → ∃ v, (∀ W, (part f.type (lkC k).toArray f.offset).run Try.prog W = .ok v W) ∧ ∀ W, (Op.equalIn 9999 f.type v v).run Try.prog W = .ok true W := by
    intro j v hk ht ho
    refine ⟨.int .i64 v, fun W => ?_, fun W => ?_⟩
    · rw [ht, ho]
      simp [part, isAgg, run_underlying Try.underlying3, hk]
    · rw [ht, run_equalIn_int W 9998 3 .i64 _ v v Try.underlying3, beq_self_eq_true]
  have keyS : ∀ (j : Nat) (v : ByteArray), (lkC k)[j]? = some (.string v) → f.type = 9 → f.offset = j → ∃ v, (∀ W, (part f.type (lkC k).toArray f.offset).run Try.prog W = .ok v W) ∧ ∀ W, (Op.equalIn 9999 f.type v v).run Try.prog W = .ok true W := by
    intro j v hk ht ho
    refine ⟨.string v, fun W => ?_, fun W => ?_⟩
    · rw [ht, ho]
      simp [part, isAgg, run_underlying Try.underlying9, hk]
    · rw [ht, run_equalIn_string W 9998 9 v v Try.underlying9, beq_self_eq_true]
  simp only [List.mem_cons, List.not_mem_nil, or_false, Prod.mk.injEq] at hm
  rcases hm with ⟨ht, ho⟩ | ⟨ht, ho⟩ | ⟨ht, ho⟩ | ⟨ht, ho⟩ | ⟨ht, ho⟩
  · exact key 0 _ rfl ht ho
  · exact key 1 _ rfl ht ho
  · exact keyS 2 _ rfl ht ho
  · exact keyS 3 _ rfl ht ho
  · exact key 4 _ rfl ht ho
theorem eqHK (w : World) (k : LKey) : (binOp .eql 23 (.agg (lkC k).toArray) (.agg (lkC k).toArray)).run Try.prog w = .ok (.bool true) w := by
  rw [run_eql_struct, sameHK k]; rfl
theorem eqgHK (w : World) (b : BinOp) (x y : Operand) (l m : List Value) : (eqGuard b 23 x y (.agg l.toArray) (.agg m.toArray)).run Try.prog w = .ok () w := run_eqGuard_agg w b 23 x y _ _ grdHK
theorem run_eqHK {o : Oper} {a : Act} {x y : Operand} (ho : o.op = .binOp .eql 23 x y 23) (k : LKey) (hx : a.eval x = .agg (lkC k).toArray) (hy : a.eval y = .agg (lkC k).toArray) (w : World) : (execOp a.eval o).run Try.prog w = .ok (.value (.bool true)) w := by
  have hr : (do eqGuard .eql 23 x y (.agg (lkC k).toArray) (.agg (lkC k).toArray); binOp .eql 23 (.agg (lkC k).toArray) (.agg (lkC k).toArray) : Sem Value).run Try.prog w = .ok (.bool true) w := by
    rw [Sem.run_bind, eqgHK, Result.andThen_ok, eqHK w k]
  unfold execOp
  simp only [ho, hx, hy]
  rw [Sem.run_bind, hr]
  rfl
theorem yields_eqHK {ops : Array Oper} {S : World → Prop} {o : Oper} {a : Act} (hw : Region.wanted o (yielded ops a.tmps) = true) (x y : Operand) (ho : o.op = .binOp .eql 23 x y 23) (k : LKey) (hx : a.eval x = .agg (lkC k).toArray) (hy : a.eval y = .agg (lkC k).toArray) : YieldsIf Try.prog ops S o (.bool true) a :=
  Or.inl ⟨hw, fun w _ => run_eqHK ho k hx hy w⟩
end Go.Proofs.Ytcfbmbhkdicpfaa
