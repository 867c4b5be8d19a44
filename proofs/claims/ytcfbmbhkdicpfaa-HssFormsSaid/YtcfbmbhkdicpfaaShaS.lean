/- The program's digest: its constants. The program's digest: a block's words. -/
import Derived.Test.YtcfbmbhkdicpfaaShaR
namespace Go.Proofs.Ytcfbmbhkdicpfaa
open Go.RowKit

set_option maxRecDepth 100000 in
set_option maxHeartbeats 1000000 in
theorem constants_any (w : World) : Calls Try.prog 155 #[] w fun e w' => e = .returned (.agg (uws shaK).toArray) ∧ Pure w w' := by
  have HK := Lib.hid shaKI_val
  have hkl : (uws shaK).length = 64 := rfl
  have hk1 := uws_one shaK
  generalize uws shaK = K at HK hkl hk1
  have HK1 := Lib.hid hk1; clear hk1
  have hz64 : ∀ l : List Value, l = uws (List.replicate 64 0) → (Try.prog.info? 230).bind (·.zero) = some (.agg l.toArray) := fun l e => by rw [e]; exact zero64
  obtain ⟨Z, hZ⟩ : ∃ Z, Z = uws (List.replicate 64 0) := ⟨_, rfl⟩
  have hZl : Z.length = 64 := by rw [hZ]; rfl
  have HZ64 := Lib.hid (hz64 Z hZ); clear hz64 hZ
  have hsz64 : (Try.prog.info? 230).map (·.size) = some 64 := by kernel_rfl
  have HS64 := Lib.hid hsz64; clear hsz64
  go_enter Try.func155, Try.ntmps155
  go_wp2_with (refine wpList_allocZ rfl 230 rfl Z HZ64.out ?_)
  intro g0 w1 e0 c0 t0 s0
  have l0 : w.heap.size ≤ g0 := by omega
  clear e0 s0
  go_wp2_with (first | (refine wpList_buildFlatArr rfl 230 219 64 _ rfl .u32 shaKI Try.underlying230 (by kernel_rfl) (by kernel_rfl) (by kernel_rfl) ?_; rw [HK.out]) | (refine wpList_store_blk rfl 230 _ _ rfl g0 _ K _ rfl rfl c0 (by rw [List.size_toArray]; omega) (by rw [hkl]; exact HS64.out) HK1.out ?_))
  intro w2 c2 t2 _
  have hc := Lib.hid c2; clear c2
  have hT : Pure w w2 := t0.trans t2 fun i hi e => by omega
  have HT := Lib.hid hT; clear hT t2 t0
  go_wp2
  refine bodyPost_ret (v := .agg K.toArray) (results_cell_row Try.results155 _ _ g0 _ K.toArray _ _ rfl hc.out Try.underlying230 rfl (by rw [List.size_toArray, hkl]; exact HS64.out)) rfl ⟨rfl, HT.out⟩

theorem rotl_still (w : World) (x : UInt32) (i : Int) (n : Nat) (hi : i = -(n : Int)) (h1 : 1 ≤ n) (h2 : n ≤ 31) :
    Calls Try.prog 157 #[.int .u32 (x.toNat : Int), .int .i64 i] w fun e w' => e = .returned (.int .u32 ((rotU x n).toNat : Int)) ∧ w' = w := by
  subst hi
  exact rotl_any w x n h1 h2

set_option maxRecDepth 100000 in
set_option maxHeartbeats 1000000 in
theorem schedule_any (w : World) (b o cap : Nat) (s : List UInt8) (hs : s.length = 64) (hr : w.rangeAt b o (u8s s)) :
    Calls Try.prog 156 #[.slice (some ⟨b, o, none⟩) 64 cap] w fun e w' => e = .returned (.agg (uws (wordsOf s 64)).toArray) ∧ Pure w w' := by
  have hcell : ∀ j, j < 64 → w.cell? ⟨b, o + j, none⟩ = some (.int .u8 ((s.getD j 0).toNat : Int)) := by
    intro j hj
    exact hr j _ (by simp [u8s, u8, List.getD, show j < s.length by omega])
  have HCELL := Lib.hid hcell; clear hcell hr
  have hz64 : ∀ l : List Value, l = uws (List.replicate 64 0) → (Try.prog.info? 230).bind (·.zero) = some (.agg l.toArray) := fun l e => by rw [e]; exact zero64
  obtain ⟨Z, hZ⟩ : ∃ Z, Z = uws (List.replicate 64 0) := ⟨_, rfl⟩
  have hZl : Z.length = 64 := by rw [hZ]; rfl
  have HZ64 := Lib.hid (hz64 Z hZ); clear hz64
  have HZE := Lib.hid hZ; clear hZ
  have hsz64 : (Try.prog.info? 230).map (·.size) = some 64 := by kernel_rfl
  have HS64 := Lib.hid hsz64; clear hsz64
  go_enter Try.func156, Try.ntmps156
  go_wp2_with (refine wpList_allocZ rfl 230 rfl Z HZ64.out ?_)
  intro g0 w1 e0 c0 t0 s0
  have l0 : w.heap.size ≤ g0 := by omega
  clear e0
  go_wp2_with (refine wpList_allocZ rfl 230 rfl Z HZ64.out ?_)
  intro g1 w2 e1 c1 t1 s1
  have l1 : g0 < g1 := by omega
  have P2 := Lib.hid (t0.pure t1)
  have C0 := Lib.hid (t1.obj c0 (fun e => e))
  have C1 := Lib.hid c1
  clear e1 c0 c1 t0 t1 s0 s1
  go_wp2
  go_loopw [4, 5, 6, 7] (fun _ _ _ i wr => ∃ k : Nat, k ≤ 64 ∧ i = .int .i64 (k : Nat) ∧ Hid (wr.heap[g1]? = some (.cells (uws (wcur s k)).toArray 230 (0, 0))) ∧ Turn (fun b => b = g1) w2 wr) (fun _ _ _ i _ => 64 - (intOf i).toNat)
  case atStart => exact ⟨0, by omega, rfl, Lib.hid (by rw [C1.out, HZE.out]; rfl), Turn.refl _ _⟩
  case round =>
    obtain ⟨k, hk, rfl, HC, ht⟩ := hrel
    by_cases hlk : k < 64
    · have q64 : (k : Int) < 64 := by omega
      have q0 : 0 ≤ (k : Int) := by omega
      have hfr := frozen_of_row wr g1 k _ _ HC.out
      have hcl := uws_cell HC.out k (by rw [wcur_length s k (by omega)]; omega)
      by_cases h16 : k < 16
      · have d16 : (k : Int) < 16 := by omega
        have z0 := HCELL.out (4 * k) (by omega)
        have z1 := HCELL.out (4 * k + 1) (by omega)
        have z2 := HCELL.out (4 * k + 2) (by omega)
        have z3 := HCELL.out (4 * k + 3) (by omega)
        have p9 : Pure w wr := P2.out.trans ht fun i hi e => by omega
        have z0 := p9.cell z0 (fun e => e)
        have z1 := p9.cell z1 (fun e => e)
        have z2 := p9.cell z2 (fun e => e)
        have z3 := p9.cell z3 (fun e => e)
        clear p9
        have b0 : IntKind.i64.wrap ((4 : Int) * k) = 4 * k := IntWalk.i64_in _ (by omega)
        have b1 : IntKind.i64.wrap ((4 : Int) * k + 1) = 4 * k + 1 := IntWalk.i64_in _ (by omega)
        have b2 : IntKind.i64.wrap ((4 : Int) * k + 2) = 4 * k + 2 := IntWalk.i64_in _ (by omega)
        have b3 : IntKind.i64.wrap ((4 : Int) * k + 3) = 4 * k + 3 := IntWalk.i64_in _ (by omega)
        have t0 : ((4 : Int) * k).toNat = 4 * k := by omega
        have t1 : ((4 : Int) * k + 1).toNat = 4 * k + 1 := by omega
        have t2 : ((4 : Int) * k + 2).toNat = 4 * k + 2 := by omega
        have t3 : ((4 : Int) * k + 3).toNat = 4 * k + 3 := by omega
        have r0 : (0 : Int) ≤ 4 * k := by omega
        have r1 : (0 : Int) ≤ 4 * k + 1 := by omega
        have r2 : (0 : Int) ≤ 4 * k + 2 := by omega
        have r3 : (0 : Int) ≤ 4 * k + 3 := by omega
        have l0 : (4 : Int) * k < 64 := by omega
        have l1 : (4 : Int) * k + 1 < 64 := by omega
        have l2 : (4 : Int) * k + 2 < 64 := by omega
        have l3 : (4 : Int) * k + 3 < 64 := by omega
        have hw : wordAt s (wordsOf s k) k = be4 (s.getD (4 * k) 0) (s.getD (4 * k + 1) 0) (s.getD (4 * k + 2) 0) (s.getD (4 * k + 3) 0) := by rw [wordAt, if_pos h16]
        have hset := fun W (hW : W.heap[g1]? = some (.cells (uws (wcur s k)).toArray 230 (0, 0))) => (heap_set_cell (w := W) (k := k) (v := uw (wordAt s (wordsOf s k) k)) hW).trans (by rw [wcur_set s k hlk])
        rw [hw] at hset
        have HSET := Lib.hid hset; clear hset hw
        generalize s.getD (4 * k) 0 = X0 at z0 HSET
        generalize s.getD (4 * k + 1) 0 = X1 at z1 HSET
        generalize s.getD (4 * k + 2) 0 = X2 at z2 HSET
        generalize s.getD (4 * k + 3) 0 = X3 at z3 HSET
        generalize (wcur s k).getD k 0 = Yk at hcl
        go_wp2_with fail
        have HD := Lib.hid (And.intro h16 (And.intro hlk hk))
        clear h16 hlk hk
        go_still_tail 35, (by kernel_rfl)
        rw [be4_val]
        go_wp2
        have hlk := HD.out.2.1
        exact ⟨⟨k + 1, by omega, by go_num, Lib.hid (HSET.out _ HC.out), (ht.setCell (fun _ => rfl) _).drew⟩, by simp [intOf]; omega⟩
      · have v15 : IntKind.i64.wrap ((k : Int) - 15) = k - 15 := IntWalk.i64_in _ (by omega)
        have v2 : IntKind.i64.wrap ((k : Int) - 2) = k - 2 := IntWalk.i64_in _ (by omega)
        have v16 : IntKind.i64.wrap ((k : Int) - 16) = k - 16 := IntWalk.i64_in _ (by omega)
        have v7 : IntKind.i64.wrap ((k : Int) - 7) = k - 7 := IntWalk.i64_in _ (by omega)
        have d15 : ((k : Int) - 15).toNat = k - 15 := by omega
        have d2 : ((k : Int) - 2).toNat = k - 2 := by omega
        have d16 : ((k : Int) - 16).toNat = k - 16 := by omega
        have d7 : ((k : Int) - 7).toNat = k - 7 := by omega
        have p15 : 0 ≤ (k : Int) - 15 := by omega
        have p2 : 0 ≤ (k : Int) - 2 := by omega
        have p16 : 0 ≤ (k : Int) - 16 := by omega
        have p7 : 0 ≤ (k : Int) - 7 := by omega
        have q15 : (k : Int) - 15 < 64 := by omega
        have q2 : (k : Int) - 2 < 64 := by omega
        have q16 : (k : Int) - 16 < 64 := by omega
        have q7 : (k : Int) - 7 < 64 := by omega
        have ge16 : ((k : Int) < 16) = False := by simp; omega
        have x15 := wcell HC.out (k - 15) (by omega) (by omega)
        have x2 := wcell HC.out (k - 2) (by omega) (by omega)
        have x16 := wcell HC.out (k - 16) (by omega) (by omega)
        have x7 := wcell HC.out (k - 7) (by omega) (by omega)
        have hw : wordAt s (wordsOf s k) k = (wordsOf s k).getD (k - 16) 0 + sg0 ((wordsOf s k).getD (k - 15) 0) + (wordsOf s k).getD (k - 7) 0 + sg1 ((wordsOf s k).getD (k - 2) 0) := by rw [wordAt, if_neg (by omega)]
        have hset := fun W (hW : W.heap[g1]? = some (.cells (uws (wcur s k)).toArray 230 (0, 0))) => (heap_set_cell (w := W) (k := k) (v := uw (wordAt s (wordsOf s k) k)) hW).trans (by rw [wcur_set s k hlk])
        rw [hw] at hset
        have HSET := Lib.hid hset; clear hset hw
        generalize (wordsOf s k).getD (k - 15) 0 = Y15 at x15 HSET
        generalize (wordsOf s k).getD (k - 16) 0 = Y16 at x16 HSET
        generalize (wordsOf s k).getD (k - 7) 0 = Y7 at x7 HSET
        generalize (wordsOf s k).getD (k - 2) 0 = Y2 at x2 HSET
        generalize (wcur s k).getD k 0 = Yk at hcl
        go_wp2_with fail
        go_quiet (fail)
        have HC1 : Hid ((wr.drewN nq).heap[g1]? = some (.cells (uws (wcur s k)).toArray 230 (0, 0))) := Lib.hid HC.out
        have ht1 := ht.drewN nq
        have x7 : (wr.drewN nq).cell? ⟨g1, k - 7, none⟩ = _ := x7
        have x16 : (wr.drewN nq).cell? ⟨g1, k - 16, none⟩ = _ := x16
        have hcl : (wr.drewN nq).cell? ⟨g1, k, none⟩ = _ := hcl
        clear HC ht x15 x2 hfr
        have hfr := frozen_of_row (wr.drewN nq) g1 k _ _ HC1.out
        generalize wr.drewN nq = wq at *
        go_wp2_with fail
        have r16 : (16 : Int) ≤ k := by omega
        have r7 : (7 : Int) ≤ k := by omega
        have u16' : (k : Int) < 80 := by omega
        have u7' : (k : Int) < 71 := by omega
        clear v15 v2 d15 d2 p15 p2 q15 q2
        have HD := Lib.hid (And.intro hlk hk)
        clear hlk hk
        refine wp_region_still_tail 29 (by kernel_rfl) (by kernel_rfl) ?_
        simp only [List.take_succ_cons, List.take_zero, List.drop_succ_cons, List.drop_zero]
        repeat still_step
        still_call (rotl_still _ _ _ 7 rfl (by decide) (by decide))
        repeat still_step
        still_call (rotl_still _ _ _ 18 rfl (by decide) (by decide))
        repeat still_step
        still_call (rotl_still _ _ _ 17 rfl (by decide) (by decide))
        repeat still_step
        still_call (rotl_still _ _ _ 19 rfl (by decide) (by decide))
        repeat still_step
        refine wpStill_nil ?_
        rw [sg0_val, sg1_val]
        generalize sg0 Y15 = A at HSET ⊢
        generalize sg1 Y2 = B at HSET ⊢
        rw [add_val, add_val, add_val, show Y16 + Y7 + A + B = Y16 + A + Y7 + B from by rw [UInt32.add_assoc Y16 Y7 A, UInt32.add_comm Y7 A, ← UInt32.add_assoc]]
        generalize Y16 + A + Y7 + B = V at HSET ⊢
        go_wp2
        have hlk := HD.out.1
        exact ⟨⟨k + 1, by omega, by go_num, Lib.hid (HSET.out _ HC1.out), (ht1.setCell (fun _ => rfl) _).drew⟩, by simp [intOf]; omega⟩
    · obtain rfl : k = 64 := by omega
      have c1 := HC.out
      rw [wcur_full] at c1
      have c0 := ht.obj C0.out (by omega)
      have hWl : (uws (wordsOf s 64)).length = 64 := by rw [uws_length, wordsOf_length]
      have hW1 := uws_one (wordsOf s 64)
      have p3 : Hid (Pure w wr) := Lib.hid (P2.out.trans ht fun i hi e => by omega)
      generalize hWW : uws (wordsOf s 64) = W at c1 hWl hW1
      have HWW := Lib.hid hWW; clear hWW
      have hsW : (Try.prog.info? 230).map (·.size) = some W.toArray.size := by rw [List.size_toArray, hWl]; exact HS64.out
      have HSW := Lib.hid hsW; clear hsW
      have hsX : (Try.prog.info? 230).map (·.size) = some W.length := by rw [hWl]; exact HS64.out
      have HSX := Lib.hid hsX; clear hsX
      have hsZ : Z.toArray.size = W.length := by rw [List.size_toArray, hWl, hZl]
      have HSZ := Lib.hid hsZ; clear hsZ hWl hZl
      have HC1 := Lib.hid c1; have HC0 := Lib.hid c0; have HW1 := Lib.hid hW1
      clear c1 c0 hW1 ht HC C0 C1 P2
      go_wp2_with (first | (refine wpList_load_row rfl 230 _ rfl g1 rfl _ W.toArray _ _ HC1.out Try.underlying230 rfl HSW.out ?_) | (refine wpList_store_blk rfl 230 _ _ rfl g0 _ W _ rfl rfl HC0.out HSZ.out HSX.out HW1.out ?_))
      intro w9 c9 t9 _
      have hc9 := Lib.hid c9; clear c9
      have HT9 := Lib.hid (p3.out.trans t9 fun i hi e => by omega)
      clear t9
      go_wp2
      refine bodyPost_ret (v := .agg W.toArray) (results_cell_row Try.results156 _ _ g0 _ W.toArray _ _ rfl hc9.out Try.underlying230 rfl HSW.out) rfl ⟨by rw [HWW.out], HT9.out⟩
end Go.Proofs.Ytcfbmbhkdicpfaa
