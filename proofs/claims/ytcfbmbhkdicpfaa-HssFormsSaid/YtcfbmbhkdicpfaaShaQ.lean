/- The reference's digest. -/
import Derived.Test.YtcfbmbhkdicpfaaShaR
import Derived.Test.YtcfbmbhkdicpfaaSha0
import Derived.Deep.DeepCutAuto
import Derived.Deep.RegionHeld3
import Derived.StillTailTactics
namespace Go.Proofs.Ytcfbmbhkdicpfaa
open Go.RowKit

theorem blockAt_ext (s : List UInt8) (k : Nat) : (s.take (64 * k + 64)).drop (64 * k) = blockAt s k := by
  rw [List.drop_take, blockAt, show 64 * k + 64 - 64 * k = 64 from by omega]
theorem range_of_row {w : World} {g : Nat} {l : List Value} {T : TypeId} {fr : Nat × Nat} (h : w.heap[g]? = some (.cells l.toArray T fr)) : w.rangeAt g 0 l := by
  intro j v hj
  rw [cell_of_row w g (0 + j) _ _ _ h, List.getElem?_toArray, Nat.zero_add, hj]

set_option maxRecDepth 100000 in
set_option maxHeartbeats 1000000 in
theorem Sha_any (w : World) (s : List UInt8) (hs : s.length ≤ 281474976710656) :
    Calls Try.prog 139 #[.string (bstr s)] w fun e w' => e = .returned (hv (shaV s)) ∧ Pure w w' := by
  have hz := bstr_size s
  have hs8 : (Try.prog.info? 220).map (·.size) = some 8 := by kernel_rfl
  have HS8 := Lib.hid hs8; clear hs8
  have hz8 : ∀ l : List Value, l = uws (List.replicate 8 0) → (Try.prog.info? 220).bind (·.zero) = some (.agg l.toArray) := fun l e => by rw [e]; exact zero8
  obtain ⟨Y, hY⟩ : ∃ Y, Y = uws (List.replicate 8 0) := ⟨_, rfl⟩
  have hYl : Y.length = 8 := by rw [hY]; rfl
  have HZ8 := Lib.hid (hz8 Y hY); clear hz8 hY
  have hz32 : (Try.prog.info? 62).bind (·.zero) = some (.agg (u8s (List.replicate 32 0)).toArray) := by kernel_rfl
  have hZ32 : ∀ l : List Value, l = u8s (List.replicate 32 0) → (Try.prog.info? 62).bind (·.zero) = some (.agg l.toArray) := fun l e => by rw [e]; exact hz32
  obtain ⟨X, hX⟩ : ∃ X, X = u8s (List.replicate 32 0) := ⟨_, rfl⟩
  have hXl : X.length = 32 := by rw [hX]; rfl
  have HZ32 := Lib.hid (hZ32 X hX); clear hZ32 hz32
  have HX := Lib.hid hX; clear hX
  have hn : 64 * (s.length / 64) ≤ s.length := by omega
  obtain ⟨n, hnn⟩ : ∃ n, n = s.length / 64 := ⟨_, rfl⟩
  obtain ⟨m, hm⟩ : ∃ m, m = 64 * n := ⟨_, rfl⟩
  have hnI : (s.length : Int) / 64 * 64 = (m : Int) := by omega
  have hml : m ≤ s.length := by omega
  have HN := Lib.hid (And.intro hnn hm); clear hnn hm hn
  go_enter Try.func139, Try.ntmps139
  go_wp2_with (refine wpList_allocZ rfl 62 rfl X HZ32.out ?_)
  intro g0 w1 e0 c0 t0 s0
  have l0 : w.heap.size ≤ g0 := by omega
  clear e0
  go_wp2_with (first | (refine wpList_allocZ rfl 220 rfl Y HZ8.out ?_))
  intro g1 w2 e1 c1 t1 s1
  have c0 := t1.obj c0 (fun e => e)
  have l1 : g0 < g1 := by omega
  have p2 := t0.pure t1
  clear e1 t1 t0 s0
  go_wp2_with (refine wpList_store_blk rfl 220 _ _ rfl g1 _ (uws shaH0.list) _ rfl rfl c1 (by rw [List.size_toArray, hYl]; rfl) (by exact HS8.out) (uws_one _) ?_)
  intro w3 c1 t2 s2
  have C0 := Lib.hid (t2.obj c0 (by omega))
  have C1 := Lib.hid c1
  have P3 : Hid (Pure w w3) := Lib.hid (p2.trans t2 fun i hi e => by omega)
  clear c0 c1 t2 p2 s2 s1
  go_wp2
  clear hnI
  go_loopw [5] (fun i wr => ∃ k j : Nat, k ≤ n ∧ j = 64 * k ∧ i = .int .i64 (j : Int) ∧ Hid (wr.heap[g1]? = some (.cells (uws (blocksV shaH0 s k).list).toArray 220 (0, 0))) ∧ Turn (fun b => b = g1) w3 wr) (fun i _ => m - (intOf i).toNat)
  case atStart => exact ⟨0, 0, by omega, rfl, rfl, C1, Turn.refl _ _⟩
  case round =>
    obtain ⟨k, j, hk, hj, rfl, HC, ht⟩ := hrel
    by_cases hlk : k < n
    · have hm := HN.out.2
      have q1 : (j : Int) < (m : Int) := by omega
      have q2 : (0 : Int) ≤ j := by omega
      have q3 : (j : Int) + 64 ≤ (s.length : Int) := by omega
      have q4 : IntKind.i64.wrap ((j : Int) + 64) = j + 64 := IntWalk.i64_in _ (by omega)
      have q5 : ((j : Int) + 64).toNat = j + 64 := by omega
      have q6 : (0 : Int) ≤ (j : Int) + 64 := by omega
      have q7 : (j : Int) ≤ (j : Int) + 64 := by omega
      have hbl : (blockAt s k).length = 64 := blockAt_length (by omega)
      have hL := range_of_row HC.out
      have hLl : (uws (blocksV shaH0 s k).list).length = 8 := rfl
      have hblk : blocksV shaH0 s (k + 1) = blockV (blocksV shaH0 s k) (blockAt s k) := rfl
      have hx : (bstr s).extract j (j + 64) = bstr (blockAt s k) := by rw [bstr_ext, hj, blockAt_ext]
      have HX1 := Lib.hid hx; clear hx
      have HB := Lib.hid (And.intro hbl hblk); clear hbl hblk
      have HJ := Lib.hid (And.intro hj (And.intro hk hlk)); clear hj hm hk hlk
      generalize hLL : uws (blocksV shaH0 s k).list = L at hL hLl
      have HLs : Hid ((Try.prog.info? 220).map (·.size) = some L.length) := Lib.hid (by rw [hLl]; exact HS8.out)
      have HL := Lib.hid hL; clear hL
      go_wp2_with fail
      refine wp_region_still_tail 6 (by kernel_rfl) (by kernel_rfl) ?_
      simp only [List.take_succ_cons, List.take_zero, List.drop_succ_cons, List.drop_zero]
      refine wpStill_load_mid rfl 220 _ rfl g1 0 rfl L _ (show wr.drew.rangeAt g1 0 L from HL.out) Try.underlying220 rfl HLs.out ?_
      repeat still_step
      try refine wpStill_nil ?_
      rw [HX1.out]
      have HLL := Lib.hid hLL; clear hLL
      have hcall := block_any wr.drew (blocksV shaH0 s k) (blockAt s k) HB.out.1
      rw [HLL.out] at hcall
      have HCALL := Lib.hid hcall; clear hcall
      go_wp2_with fail
      refine HCALL.out.mono ?_
      rintro e w4 ⟨rfl, t4⟩
      have c4 := t4.obj (show wr.drew.heap[g1]? = _ from HC.out) (fun e => e)
      have T4 : Hid (Turn (fun b => b = g1) w3 w4) := Lib.hid (ht.drew.pure t4)
      rw [← HB.out.2]
      have hRl : (uws (blocksV shaH0 s (k + 1)).list).length = 8 := rfl
      have hR1 := uws_one (blocksV shaH0 s (k + 1)).list
      generalize hRR : uws (blocksV shaH0 s (k + 1)).list = R at hRl hR1 ⊢
      have HRR := Lib.hid hRR; have HR1 := Lib.hid hR1; clear hRR hR1
      rw [HLL.out] at c4
      have HC4 := Lib.hid c4
      clear c4 t4 HCALL HC ht HX1 HL
      go_wp2_with (refine wpList_store_blk rfl 220 _ _ rfl g1 _ R _ rfl rfl HC4.out (by rw [List.size_toArray]; omega) (by rw [hRl]; exact HS8.out) HR1.out ?_)
      intro w5 c5 t5 s5
      rw [← HRR.out] at c5
      have HC5 := Lib.hid c5
      have T5 := Lib.hid (T4.out.trans t5 fun _ _ e => e)
      clear c5 t5 s5 T4 HC4
      go_wp2
      exact ⟨⟨k + 1, j + 64, by have := HJ.out; omega, by have := HJ.out; omega, by go_num, HC5, T5.out⟩, by have := HJ.out; simp [intOf]; omega⟩
    · obtain rfl : k = n := by omega
      have hm := HN.out.2
      obtain rfl : j = m := by omega
      have hdrop : (bstr s).extract j s.length = bstr (restOf s) := by rw [bstr_ext, List.take_length, restOf, hm, HN.out.1]
      have hadd : bstr (restOf s) ++ ⟨#[128]⟩ = bstr (restOf s ++ [128]) := bstr_app _ _
      have hrz := bstr_size (restOf s)
      have hrl := restOf_length s
      obtain ⟨r, hr⟩ : ∃ r, r = s.length % 64 := ⟨_, rfl⟩
      rw [← hr] at hrl
      rw [hrl] at hrz
      have hnb : ¬ (9223372036854775807 < r + 1) := by omega
      have hal : (restOf s ++ [128]).length = r + 1 := by rw [List.length_append, hrl]; rfl
      have haz := bstr_size (restOf s ++ [128])
      rw [hal] at haz
      have hlast : lastOf s = restOf s ++ [128] ++ (List.replicate (zerosOf s.length) 0 ++ beB (8 * s.length) 8) := by simp [lastOf, padOf]
      have HLAST := Lib.hid hlast; clear hlast
      have HADD := Lib.hid hadd; clear hadd
      have q1 : (j : Int) ≤ (s.length : Int) := by omega
      have q2 : (0 : Int) ≤ j := by omega
      have hnot : ¬ ((j : Int) < (j : Int)) := by omega
      have HJ := Lib.hid (And.intro hj hm); clear hj hm
      have hr63 : r < 64 := by omega
      have HR := Lib.hid hr; clear hr
      clear hal hrl
      go_upto_region 8 with fail
      clear hnb hrz hdrop
      rw [HADD.out]
      generalize restOf s ++ [128] = A at haz HLAST ⊢
      obtain ⟨a, ha⟩ : ∃ a, a = r + 1 := ⟨_, rfl⟩
      rw [← ha] at haz
      obtain ⟨z, hz0⟩ : ∃ z, z = zerosOf s.length := ⟨_, rfl⟩
      rw [← hz0] at HLAST
      obtain ⟨n8, hn8⟩ : ∃ n8, n8 = 8 * s.length := ⟨_, rfl⟩
      rw [← hn8] at HLAST
      have hzb : z < 64 := by rw [hz0, zerosOf]; omega
      obtain ⟨d, hd⟩ : ∃ d, d = a % 64 := ⟨_, rfl⟩
      obtain ⟨e, he⟩ : ∃ e : Nat, (e : Int) = 120 - (d : Int) := ⟨120 - d, by omega⟩
      have h0 : (a : Int).tmod 64 = (d : Int) := by rw [Int.tmod_eq_emod_of_nonneg (by omega)]; omega
      have h1 : IntKind.i64.wrap (120 - (d : Int)) = e := by rw [he]; exact IntWalk.i64_in _ (by omega)
      have h2 : (e : Int).tmod 64 = z := by rw [Int.tmod_eq_emod_of_nonneg (by omega), he, hz0, zerosOf]; have := HR.out; omega
      have h3 : IntKind.i64.wrap ((s.length : Int) * 8) = n8 := by rw [IntWalk.i64_in _ (by omega)]; omega
      have hmk := fun W => make_u8S W z (by omega)
      have hZl : (List.replicate z (0 : UInt8)).length = z := by simp
      generalize List.replicate z (0 : UInt8) = Zr at hmk hZl HLAST
      have hcv0 := fun W : World => conv_block (P := Try.prog) (W.alloc (.cells (u8s Zr).toArray 5)) 65 5 9 5 (0, 0) Try.underlying65 Try.underlying5 Try.underlying9 W.heap.size z Zr z hZl (heap_alloc_new _ _)
      have hcv1 := conv_block (P := Try.prog) (wr.drew.alloc (.cells (u8s Zr).toArray 5)) 65 5 9 5 (0, 0) Try.underlying65 Try.underlying5 Try.underlying9 wr.heap.size z Zr z hZl (heap_alloc_new wr.drew _)
      have hcv2 := conv_block (P := Try.prog) (wr.alloc (.cells (u8s Zr).toArray 5)).drew 65 5 9 5 (0, 0) Try.underlying65 Try.underlying5 Try.underlying9 wr.heap.size z Zr z hZl (heap_alloc_new wr.drew _)
      have hsz1 := bstr_size Zr
      rw [hZl] at hsz1
      have hsz2 : (bstr (beB n8 8)).size = 8 := by rw [bstr_size, beB_length]
      have hsz3 : (bstr (A ++ Zr)).size = a + z := by rw [bstr_size, List.length_append, hZl, ← bstr_size A, haz]
      have hadd1 := bstr_app A Zr
      have hadd2 : bstr (A ++ Zr) ++ bstr (beB n8 8) = bstr (lastOf s) := by rw [bstr_app, HLAST.out, List.append_assoc]
      have hb1 : ¬ (9223372036854775807 < a + z) := by omega
      have hb2 : ¬ (9223372036854775807 < a + z + 8) := by omega
      have hzs : Zr.length = z := hZl
      have HZL := Lib.hid hZl; clear hZl hzs
      have HE := Lib.hid (And.intro he (And.intro ha (And.intro hz0 (And.intro hn8 hd))))
      have b3 : n8 < 9223372036854775808 := by omega
      clear he ha hz0 hn8 hd
      have hbe : ∀ W : World, Calls Try.prog 37 #[.int .i64 n8, .int .i64 8] W fun e w' => e = .returned (.string (bstr (beB n8 8))) ∧ Pure W w' := fun W => Be_anyS n8 8 W (by decide) b3
      go_cut [6] (fun s6 wx => s6 = .string (bstr (lastOf s)) ∧ Pure wr wx)
      case first =>
        go_region_with (go_at_call 37; refine (hbe _).mono ?_; rintro e w' ⟨rfl, t⟩; try (have hcv := conv_block (P := Try.prog) w' 65 5 9 5 (0, 0) Try.underlying65 Try.underlying5 Try.underlying9 wr.heap.size z Zr z HZL.out (t.obj (heap_alloc_new wr.drew _) (fun e => e))))
        all_goals (go_wp2_with fail; go_meet; refine ⟨?_, ?_⟩; (first | rfl | (rw [hadd2]; rfl) | exact congrArg Value.string hadd2); (first | exact ((Turn.refl _ wr).alloc _).drew.pure t | exact ((Turn.refl _ wr).drew.pure t).alloc _ | trace_state))
      case rest =>
        obtain ⟨rfl, hP⟩ := hcut
        have C0 := Lib.hid (hP.obj (ht.obj C0.out (by omega)) (fun e => e))
        have HC := Lib.hid (hP.obj HC.out (fun e => e))
        have T6 : Hid (Turn (fun b => b = g1) w3 wc) := Lib.hid (ht.pure hP)
        clear hP ht hmk hcv0 hcv1 hcv2 hbe hadd1 hadd2 HADD HLAST HZL HE
        clear h0 h1 h2 h3 hsz1 hsz2 hsz3 hb1 hb2 b3 haz hzb hr63 q1 q2 hnot hk hlk
        have hL2 := lastOf_whole s
        have hL3 : (lastOf s).length ≤ 200 := by rw [lastOf_length, zerosOf]; omega
        have hfin : outV (blocksV (blocksV shaH0 s k) (lastOf s) ((lastOf s).length / 64)) = shaV s := by rw [HN.out.1]; rfl
        have HFIN := Lib.hid hfin; clear hfin
        generalize lastOf s = S at hL2 hL3 HFIN ⊢
        generalize blocksV shaH0 s k = V at HC HFIN
        have hz2 := bstr_size S
        obtain ⟨n2, hn2⟩ : ∃ n2, n2 = S.length / 64 := ⟨_, rfl⟩
        rw [← hn2] at hL2 HFIN
        have HN2 := Lib.hid (And.intro hL2 hn2); clear hL2 hn2
        go_wp2
        go_loopw [7] (fun i wr => ∃ q p : Nat, q ≤ n2 ∧ p = 64 * q ∧ i = .int .i64 (p : Int) ∧ Hid (wr.heap[g1]? = some (.cells (uws (blocksV V S q).list).toArray 220 (0, 0))) ∧ Turn (fun b => b = g1) wc wr) (fun i _ => S.length - (intOf i).toNat)
        case atStart => exact ⟨0, 0, by omega, rfl, rfl, HC, Turn.refl _ _⟩
        case round =>
          obtain ⟨q, p, hq, hp, rfl, HC2, ht⟩ := hrel
          by_cases hlq : q < n2
          · have hm := HN2.out.1
            have q1 : (p : Int) < (S.length : Int) := by omega
            have q2 : (0 : Int) ≤ p := by omega
            have q3 : (p : Int) + 64 ≤ (S.length : Int) := by omega
            have q4 : IntKind.i64.wrap ((p : Int) + 64) = p + 64 := IntWalk.i64_in _ (by omega)
            have q5 : ((p : Int) + 64).toNat = p + 64 := by omega
            have q6 : (0 : Int) ≤ (p : Int) + 64 := by omega
            have q7 : (p : Int) ≤ (p : Int) + 64 := by omega
            have hbl : (blockAt S q).length = 64 := blockAt_length (by omega)
            have hL := range_of_row HC2.out
            have hLl : (uws (blocksV V S q).list).length = 8 := rfl
            have hblk : blocksV V S (q + 1) = blockV (blocksV V S q) (blockAt S q) := rfl
            have hx : (bstr S).extract p (p + 64) = bstr (blockAt S q) := by rw [bstr_ext, hp, blockAt_ext]
            have HX1 := Lib.hid hx; clear hx
            have HB := Lib.hid (And.intro hbl hblk); clear hbl hblk
            have HJ := Lib.hid (And.intro hp (And.intro hq hlq)); clear hp hm hq hlq
            generalize hLL : uws (blocksV V S q).list = L at hL hLl
            have HLs : Hid ((Try.prog.info? 220).map (·.size) = some L.length) := Lib.hid (by rw [hLl]; exact HS8.out)
            have HL := Lib.hid hL; clear hL
            go_wp2_with fail
            refine wp_region_still_tail 6 (by kernel_rfl) (by kernel_rfl) ?_
            simp only [List.take_succ_cons, List.take_zero, List.drop_succ_cons, List.drop_zero]
            refine wpStill_load_mid rfl 220 _ rfl g1 0 rfl L _ (show wr.drew.rangeAt g1 0 L from HL.out) Try.underlying220 rfl HLs.out ?_
            repeat still_step
            try refine wpStill_nil ?_
            rw [HX1.out]
            have HLL := Lib.hid hLL; clear hLL
            have hcall := block_any wr.drew (blocksV V S q) (blockAt S q) HB.out.1
            rw [HLL.out] at hcall
            have HCALL := Lib.hid hcall; clear hcall
            go_wp2_with fail
            refine HCALL.out.mono ?_
            rintro e w4 ⟨rfl, t4⟩
            have c4 := t4.obj (show wr.drew.heap[g1]? = _ from HC2.out) (fun e => e)
            have T4 : Hid (Turn (fun b => b = g1) wc w4) := Lib.hid (ht.drew.pure t4)
            rw [← HB.out.2]
            have hRl : (uws (blocksV V S (q + 1)).list).length = 8 := rfl
            have hR1 := uws_one (blocksV V S (q + 1)).list
            generalize hRR : uws (blocksV V S (q + 1)).list = R at hRl hR1 ⊢
            have HRR := Lib.hid hRR; have HR1 := Lib.hid hR1; clear hRR hR1
            rw [HLL.out] at c4
            have HC4 := Lib.hid c4
            clear c4 t4 HCALL HC2 ht HX1 HL
            go_wp2_with (refine wpList_store_blk rfl 220 _ _ rfl g1 _ R _ rfl rfl HC4.out (by rw [List.size_toArray]; omega) (by rw [hRl]; exact HS8.out) HR1.out ?_)
            intro w5 c5 t5 s5
            rw [← HRR.out] at c5
            have HC5 := Lib.hid c5
            have T5 := Lib.hid (T4.out.trans t5 fun _ _ e => e)
            clear c5 t5 s5 T4 HC4
            go_wp2
            exact ⟨⟨q + 1, p + 64, by have := HJ.out; omega, by have := HJ.out; omega, by go_num, HC5, T5.out⟩, by have := HJ.out; simp [intOf]; omega⟩
          · obtain rfl : q = n2 := by omega
            have hm := HN2.out.1
            have hpm : p = S.length := by omega
            have hnot : ¬ ((p : Int) < (S.length : Int)) := by omega
            have c0 := Lib.hid (ht.obj C0.out (by omega))
            have T7 : Hid (Turn (fun b => b = g1) w3 wr) := Lib.hid (T6.out.trans ht fun _ _ e => e)
            generalize hv : blocksV V S q = v at HC2 HFIN
            have HV := Lib.hid hv; clear hv hpm hm hp ht T6
            go_wp2_with (refine wpList_allocZ rfl 62 rfl X HZ32.out ?_)
            intro g2 w6 e6 c6 t6 s6
            have l6 : g1 < g2 := by
              have := (Array.getElem?_eq_some_iff.1 HC2.out).1
              omega
            have C7 := Lib.hid (t6.obj c0.out (fun e => e))
            have C8 := Lib.hid (t6.obj HC2.out (fun e => e))
            have T8 := Lib.hid (T7.out.pure t6)
            have C6 := Lib.hid c6
            clear e6 c6 t6 s6 c0 HC2 T7
            go_wp2
            have c6 := C6.out
            clear HN2 hnot hlq hq hz2 hL3 C6
            go_loopw [9] (fun i wr => ∃ k : Nat, k ≤ 32 ∧ i = .int .i64 (k : Int) ∧ Hid (wr.heap[g2]? = some (.cells (u8s (outCur v k)).toArray 62 (0, 0))) ∧ Turn (fun b => b = g2) w6 wr) (fun i _ => 32 - (intOf i).toNat)
            case atStart => exact ⟨0, by omega, rfl, Lib.hid (by rw [c6, outCur_zero, HX.out]), Turn.refl _ _⟩
            case round =>
              obtain ⟨i, hi, rfl, HD, ht⟩ := hrel
              by_cases hli : i < 32
              · obtain ⟨d, hd⟩ : ∃ d, d = i / 4 := ⟨_, rfl⟩
                obtain ⟨m, hm⟩ : ∃ m, m = i % 4 := ⟨_, rfl⟩
                have e0 := uws_cell (ht.obj C8.out (by omega)) d (by show d < 8; omega)
                have i1 : (i : Int) / 4 = (d : Int) := by omega
                have i2 : (i : Int).tmod 4 = (m : Int) := by rw [Int.tmod_eq_emod_of_nonneg (by omega)]; omega
                obtain ⟨m8, hm8⟩ : ∃ m8, m8 = 8 * m := ⟨_, rfl⟩
                have i3 : IntKind.i64.wrap (8 * (m : Int)) = (m8 : Int) := by rw [IntWalk.i64_in _ (by omega)]; omega
                obtain ⟨sh, hsh⟩ : ∃ sh, sh = 24 - m8 := ⟨_, rfl⟩
                have i4 : IntKind.i64.wrap (24 - (m8 : Int)) = (sh : Int) := by rw [IntWalk.i64_in _ (by omega)]; omega
                have i5 : (sh : Int) < 32 := by omega
                have i6 : (0 : Int) ≤ sh := by omega
                have d8 : (d : Int) < 8 := by omega
                have d0 : (0 : Int) ≤ d := by omega
                have k32 : (i : Int) < 32 := by omega
                have k0 : (0 : Int) ≤ i := by omega
                have hfr := frozen_of_row wr g2 i _ _ HD.out
                have hcl : wr.cell? ⟨g2, i, none⟩ = some (u8 ((outCur v i).getD i 0)) := by
                  rw [cell_of_row wr g2 i _ _ _ HD.out]
                  simp [u8s, List.getD, outCur_length v i hi, hli]
                have hset : ∀ W : World, W.heap[g2]? = some (.cells (u8s (outCur v i)).toArray 62 (0, 0)) → (W.setCell ⟨g2, i, none⟩ (Value.int .u8 (((v.list.getD d 0).toNat : Int) / 2 ^ sh % 256))).heap[g2]? = some (.cells (u8s (outCur v (i + 1))).toArray 62 (0, 0)) := by
                  intro W hW
                  rw [heap_set_cell hW, ← outCur_set v i hli, ← outAt_cell, hsh, hm8, hm, hd]
                have HSET := Lib.hid hset; clear hset
                generalize v.list.getD d 0 = x at e0 HSET
                generalize (outCur v i).getD i 0 = y at hcl
                have HI := Lib.hid (And.intro hi (And.intro hli (And.intro hd (And.intro hm (And.intro hm8 hsh)))))
                clear hi hli hd hm hm8 hsh
                go_wp2
                exact ⟨⟨i + 1, by have := HI.out; omega, by go_num, Lib.hid (HSET.out _ HD.out), ht.setCell (fun _ => rfl) _⟩, by have := HI.out; simp [intOf]; omega⟩
              · obtain rfl : i = 32 := by omega
                have d0 := HD.out
                rw [outCur_full, HFIN.out] at d0
                have D0 := Lib.hid d0
                have C9 := Lib.hid (ht.obj C7.out (by omega))
                have T9 : Hid (Pure w wr) := Lib.hid ((P3.out.trans T8.out fun i hi e => by omega).trans ht fun i hi e => by omega)
                have hs32 : (Try.prog.info? 62).map (·.size) = some 32 := by kernel_rfl
                have hRl : (u8s (shaV s)).length = 32 := by rw [u8s_length, shaV_length]
                have hR1 := u8s_one (shaV s)
                generalize hRR : u8s (shaV s) = R at D0 hRl hR1
                have HS32 : Hid ((Try.prog.info? 62).map (·.size) = some R.length) := Lib.hid (by rw [hRl]; exact hs32)
                have HS33 : Hid ((Try.prog.info? 62).map (·.size) = some R.toArray.size) := Lib.hid (by rw [List.size_toArray]; exact HS32.out)
                have hXR : X.toArray.size = R.length := by rw [List.size_toArray, hXl, hRl]
                have HRR := Lib.hid hRR; have HR1 := Lib.hid hR1; have HXR := Lib.hid hXR
                clear hRR hR1 hXR hs32 d0 HD ht T8 C7
                go_wp2_with (first | (refine wpList_load_row rfl 62 _ rfl g2 rfl _ R.toArray _ _ D0.out Try.underlying62 rfl HS33.out ?_) | (refine wpList_store_blk rfl 62 _ _ rfl g0 _ R _ rfl rfl C9.out HXR.out HS32.out HR1.out ?_))
                intro w9 c9 t9 _
                have hc9 := Lib.hid c9; clear c9
                have HT9 := Lib.hid (T9.out.trans t9 fun i hi e => by omega)
                clear t9
                go_wp2
                refine bodyPost_ret (v := .agg R.toArray) (results_cell_row Try.results139 _ _ g0 _ R.toArray _ _ rfl hc9.out Try.underlying62 rfl HS33.out) rfl ⟨by rw [← HRR.out], HT9.out⟩
end Go.Proofs.Ytcfbmbhkdicpfaa
