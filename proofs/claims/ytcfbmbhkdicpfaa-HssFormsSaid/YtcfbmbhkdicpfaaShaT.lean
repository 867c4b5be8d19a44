/- The program's digest: a block worked in. -/
import Derived.Test.YtcfbmbhkdicpfaaShaS
namespace Go.Proofs.Ytcfbmbhkdicpfaa
open Go.RowKit

theorem rotl_quiet (w : World) (x : UInt32) (i : Int) (n : Nat) (hi : i = -(n : Int)) (h1 : 1 ≤ n) (h2 : n ≤ 31) :
    Calls Try.prog 157 #[.int .u32 (x.toNat : Int), .int .i64 i] w fun e w' => e = .returned (.int .u32 ((rotU x n).toNat : Int)) ∧ ∃ m, w' = w.drewN m :=
  (rotl_still w x i n hi h1 h2).mono fun _ _ h => ⟨h.1, 0, h.2⟩
theorem tl_cell {w : World} {g : Nat} {l : List UInt32} {tl : List Value} {T : TypeId} {fr : Nat × Nat} (h : w.heap[g]? = some (.cells (uws l ++ tl).toArray T fr)) (j : Nat) (hj : j < l.length) : w.cell? ⟨g, j, none⟩ = some (.int .u32 ((l.getD j 0).toNat : Int)) := by
  rw [cell_of_row w g j _ _ _ h]
  have : (uws l ++ tl)[j]? = (uws l)[j]? := List.getElem?_append_left (by rw [uws_length]; exact hj)
  rw [List.getElem?_toArray, this]
  simp [uws, uw, List.getD, hj]
theorem tl_set {l m : List UInt32} {tl : List Value} {k : Nat} {x : Value} (hk : k < l.length) (h : (uws l).toArray.setIfInBounds k x = (uws m).toArray) : (uws l ++ tl).toArray.setIfInBounds k x = (uws m ++ tl).toArray := by
  have h2 := congrArg Array.toList h
  apply Array.toList_inj.1
  simp only [Array.toList_setIfInBounds] at h2 ⊢
  rw [List.set_append_left _ _ (by rw [uws_length]; exact hk), h2]

set_option maxRecDepth 100000 in
set_option maxHeartbeats 2000000 in
theorem turn_any (w : World) (g : Nat) (h8 : V8) (tl : List Value) (s : List UInt8) (hs : s.length = 64) (b o cap : Nat) (hr : w.rangeAt b o (u8s s)) (hg : w.heap[g]? = some (.cells (uws h8.list ++ tl).toArray 222 (0, 0))) :
    Calls Try.prog 149 #[.pointer (some ⟨g, 0, none⟩), .slice (some ⟨b, o, none⟩) 64 cap] w fun e w' => e = .returned (.tuple #[]) ∧ Turn (fun k => k = g) w w' ∧ w'.heap[g]? = some (.cells (uws (blockV h8 s).list ++ tl).toArray 222 (0, 0)) := by
  have hgl : g < w.heap.size := (Array.getElem?_eq_some_iff.1 hg).1
  have HR := Lib.hid hr; clear hr
  have HG := Lib.hid hg; clear hg
  have hz64 : ∀ l : List Value, l = uws (List.replicate 64 0) → (Try.prog.info? 230).bind (·.zero) = some (.agg l.toArray) := fun l e => by rw [e]; exact zero64
  obtain ⟨Z, hZ⟩ : ∃ Z, Z = uws (List.replicate 64 0) := ⟨_, rfl⟩
  have hZl : Z.length = 64 := by rw [hZ]; rfl
  have HZ64 := Lib.hid (hz64 Z hZ); clear hz64 hZ
  have hz8 : ∀ l : List Value, l = uws (List.replicate 8 0) → (Try.prog.info? 220).bind (·.zero) = some (.agg l.toArray) := fun l e => by rw [e]; exact zero8
  obtain ⟨Y, hY⟩ : ∃ Y, Y = uws (List.replicate 8 0) := ⟨_, rfl⟩
  have hYl : Y.length = 8 := by rw [hY]; rfl
  have HZ8 := Lib.hid (hz8 Y hY); clear hz8 hY
  have hsz64 : (Try.prog.info? 230).map (·.size) = some 64 := by kernel_rfl
  have HS64 := Lib.hid hsz64; clear hsz64
  have hs8 : (Try.prog.info? 220).map (·.size) = some 8 := by kernel_rfl
  have HS8 := Lib.hid hs8; clear hs8
  have hHl : (uws h8.list).length = 8 := rfl
  have hH1 := uws_one h8.list
  go_enter Try.func149, Try.ntmps149
  go_wp2_with fail
  refine (constants_any _).mono ?_
  rintro e w1 ⟨rfl, t1⟩
  have HR1 : Hid (w1.rangeAt b o (u8s s)) := Lib.hid fun j v h => t1.cell (HR.out j v h) (fun e => e)
  have HG1 : Hid (w1.heap[g]? = some (.cells (uws h8.list ++ tl).toArray 222 (0, 0))) := Lib.hid (t1.obj HG.out (fun e => e))
  have s1 := t1.size
  clear HR HG
  have hkl : (uws shaK).length = 64 := rfl
  have hk1 := uws_one shaK
  generalize hK : uws shaK = K at hkl hk1 ⊢
  have HK := Lib.hid hK; have HK1 := Lib.hid hk1; clear hK hk1
  go_wp2_with fail
  refine (schedule_any _ b o cap s hs HR1.out).mono ?_
  rintro e w2 ⟨rfl, t2⟩
  have HG2 : Hid (w2.heap[g]? = some (.cells (uws h8.list ++ tl).toArray 222 (0, 0))) := Lib.hid (t2.obj HG1.out (fun e => e))
  have s2 := t2.size
  have T2 : Hid (Turn (fun k => k = g) w w2) := Lib.hid (((Turn.refl (fun k => k = g) w).pure t1).pure t2)
  clear HG1 HR1 t1 t2
  have hwl : (uws (wordsOf s 64)).length = 64 := by rw [uws_length, wordsOf_length]
  have hw1 := uws_one (wordsOf s 64)
  generalize hW : uws (wordsOf s 64) = W at hwl hw1 ⊢
  have HW := Lib.hid hW; have HW1 := Lib.hid hw1; clear hW hw1
  go_wp2_with (refine wpList_allocZ rfl 230 rfl Z HZ64.out ?_)
  intro g1 w3 e3 c1 t3 z3
  have l1 : w.heap.size ≤ g1 := by omega
  have HG3 := Lib.hid (t3.obj HG2.out (fun e => e))
  have T3 := Lib.hid (T2.out.pure t3)
  clear e3 t3 HG2 T2 s1 s2
  go_wp2_with (refine wpList_allocZ rfl 230 rfl Z HZ64.out ?_)
  intro g2 w4 e4 c2 t4 z4
  have l2 : g1 < g2 := by omega
  have c1 := t4.obj c1 (fun e => e)
  have HG4 := Lib.hid (t4.obj HG3.out (fun e => e))
  have T4 := Lib.hid (T3.out.pure t4)
  clear e4 t4 HG3 T3 z3
  go_wp2_with (refine wpList_store_blk rfl 230 _ _ rfl g1 _ K _ rfl rfl c1 (by rw [List.size_toArray]; omega) (by rw [hkl]; exact HS64.out) HK1.out ?_)
  intro w5 c1 t5 z5
  have c2 := t5.obj c2 (by omega)
  have HG5 := Lib.hid (t5.obj HG4.out (by omega))
  have T5 := Lib.hid (T4.out.trans t5 fun i hi e => by omega)
  clear t5 HG4 T4
  go_wp2_with (refine wpList_store_blk rfl 230 _ _ rfl g2 _ W _ rfl rfl c2 (by rw [List.size_toArray]; omega) (by rw [hwl]; exact HS64.out) HW1.out ?_)
  intro w6 c2 t6 z6
  have c1 := t6.obj c1 (by omega)
  have HG6 := Lib.hid (t6.obj HG5.out (by omega))
  have T6 := Lib.hid (T5.out.trans t6 fun i hi e => by omega)
  clear t6 HG5 T5
  have C1 := Lib.hid c1; have C2 := Lib.hid c2
  clear c1 c2
  have hrg : w6.rangeAt g 0 (uws h8.list) := by
    intro j v hj
    have hjl : j < (uws h8.list).length := (List.getElem?_eq_some_iff.1 hj).1
    rw [cell_of_row w6 g (0 + j) _ _ _ HG6.out, List.getElem?_toArray, Nat.zero_add, List.getElem?_append_left hjl, hj]
  have HRG := Lib.hid hrg; clear hrg
  have hHl : (uws h8.list).length = 8 := rfl
  have hH1 := uws_one h8.list
  generalize hHH : uws h8.list = H at hHl hH1 HRG
  have HHE := Lib.hid hHH; have HH1 := Lib.hid hH1; clear hHH hH1
  have hLl : (Try.prog.info? 220).map (·.size) = some H.length := by rw [hHl]; exact HS8.out
  have HLL := Lib.hid hLl; clear hLl
  go_wp2_with (first | (refine wpList_load_mid rfl 220 _ rfl g 0 rfl H _ HRG.out Try.underlying220 rfl HLL.out ?_) | (refine wpList_allocZ rfl 220 rfl Y HZ8.out ?_))
  intro g3 w7 e7 c3 t7 z7
  have l3 : g2 < g3 := by omega
  have C1 := Lib.hid (t7.obj C1.out (fun e => e))
  have C2 := Lib.hid (t7.obj C2.out (fun e => e))
  have HG7 := Lib.hid (t7.obj HG6.out (fun e => e))
  have T7 := Lib.hid (T6.out.pure t7)
  clear e7 t7 HG6 T6 HRG
  go_wp2_with (refine wpList_store_blk rfl 220 _ _ rfl g3 _ H _ rfl rfl c3 (by rw [List.size_toArray]; omega) HLL.out HH1.out ?_)
  intro w8 c3 t8 z8
  have C1 := Lib.hid (t8.obj C1.out (by omega))
  have C2 := Lib.hid (t8.obj C2.out (by omega))
  have HG8 := Lib.hid (t8.obj HG7.out (by omega))
  have T8 := Lib.hid (T7.out.trans t8 fun i hi e => by omega)
  have C3 := Lib.hid c3
  clear t8 HG7 T7 c3
  go_wp2
  go_loopw [7, 8, 9, 10, 11, 20] (fun _ _ _ _ _ i wr => ∃ k : Nat, k ≤ 64 ∧ i = .int .i64 (k : Nat) ∧ Hid (wr.heap[g3]? = some (.cells (uws (roundsOf (wordsOf s 64) h8 k).list).toArray 220 (0, 0))) ∧ Turn (fun b => b = g3) w8 wr) (fun _ _ _ _ _ i _ => 64 - (intOf i).toNat)
  case atStart => exact ⟨0, by omega, rfl, Lib.hid (by rw [C3.out, ← HHE.out]; rfl), Turn.refl _ _⟩
  case round =>
    obtain ⟨k, hk, rfl, HC, ht⟩ := hrel
    by_cases hlk : k < 64
    · have e4 := uws_cell HC.out 4 (by show 4 < 8; decide)
      have e5 := uws_cell HC.out 5 (by show 5 < 8; decide)
      have e6 := uws_cell HC.out 6 (by show 6 < 8; decide)
      have e7 := uws_cell HC.out 7 (by show 7 < 8; decide)
      have e0 := uws_cell HC.out 0 (by show 0 < 8; decide)
      have e1 := uws_cell HC.out 1 (by show 1 < 8; decide)
      have e2 := uws_cell HC.out 2 (by show 2 < 8; decide)
      have e3 := uws_cell HC.out 3 (by show 3 < 8; decide)
      have hstep : roundsOf (wordsOf s 64) h8 (k + 1) = round (shaK.getD k 0) ((wordsOf s 64).getD k 0) (roundsOf (wordsOf s 64) h8 k) := rfl
      have hkc : wr.cell? ⟨g1, k, none⟩ = some (.int .u32 ((shaK.getD k 0).toNat : Int)) := by
        have c1 := ht.obj C1.out (by omega)
        rw [← HK.out] at c1
        exact uws_cell c1 k (by have : shaK.length = 64 := rfl; omega)
      have hwc : wr.cell? ⟨g2, k, none⟩ = some (.int .u32 (((wordsOf s 64).getD k 0).toNat : Int)) := by
        have c2 := ht.obj C2.out (by omega)
        rw [← HW.out] at c2
        exact uws_cell c2 k (by rw [wordsOf_length]; omega)
      generalize shaK.getD k 0 = KK at hkc hstep
      generalize (wordsOf s 64).getD k 0 = WW at hwc hstep
      generalize roundsOf (wordsOf s 64) h8 k = v at *
      obtain ⟨va, vb, vc, vd, ve, vf, vg, vh⟩ := v
      simp only [V8.list, List.getD_cons_zero, List.getD_cons_succ] at e0 e1 e2 e3 e4 e5 e6 e7
      have HSTEP := Lib.hid hstep; clear hstep
      have q64 : (k : Int) < 64 := by omega
      have q0 : 0 ≤ (k : Int) := by omega
      go_wp2_with fail
      go_quiet (fail)
      have HC := Lib.hid (show (wr.drewN nq).heap[g3]? = _ from HC.out)
      have ht := ht.drewN nq
      have e0 : (wr.drewN nq).cell? ⟨g3, 0, none⟩ = _ := e0
      have e1 : (wr.drewN nq).cell? ⟨g3, 1, none⟩ = _ := e1
      have e2 : (wr.drewN nq).cell? ⟨g3, 2, none⟩ = _ := e2
      have e3 : (wr.drewN nq).cell? ⟨g3, 3, none⟩ = _ := e3
      have e4 : (wr.drewN nq).cell? ⟨g3, 4, none⟩ = _ := e4
      have e5 : (wr.drewN nq).cell? ⟨g3, 5, none⟩ = _ := e5
      have e6 : (wr.drewN nq).cell? ⟨g3, 6, none⟩ = _ := e6
      have e7 : (wr.drewN nq).cell? ⟨g3, 7, none⟩ = _ := e7
      have hkc : (wr.drewN nq).cell? ⟨g1, k, none⟩ = _ := hkc
      have hwc : (wr.drewN nq).cell? ⟨g2, k, none⟩ = _ := hwc
      generalize wr.drewN nq = wa at *
      go_wp2_with fail
      go_quiet (first | (go_at_call 157; exact Calls.quiet_of (rotl_quiet _ _ _ 6 rfl (by decide) (by decide))) | (go_at_call 157; exact Calls.quiet_of (rotl_quiet _ _ _ 11 rfl (by decide) (by decide))) | (go_at_call 157; exact Calls.quiet_of (rotl_quiet _ _ _ 25 rfl (by decide) (by decide))))
      rw [bs1_val, ch_val, t_val, not_val]
      generalize ~~~ve = NE
      clear hkc hwc
      have HC := Lib.hid (show (wa.drewN nq).heap[g3]? = _ from HC.out)
      have ht := ht.drewN nq
      have e0 : (wa.drewN nq).cell? ⟨g3, 0, none⟩ = _ := e0
      have e1 : (wa.drewN nq).cell? ⟨g3, 1, none⟩ = _ := e1
      have e2 : (wa.drewN nq).cell? ⟨g3, 2, none⟩ = _ := e2
      have e3 : (wa.drewN nq).cell? ⟨g3, 3, none⟩ = _ := e3
      have e4 : (wa.drewN nq).cell? ⟨g3, 4, none⟩ = _ := e4
      have e5 : (wa.drewN nq).cell? ⟨g3, 5, none⟩ = _ := e5
      have e6 : (wa.drewN nq).cell? ⟨g3, 6, none⟩ = _ := e6
      have e7 : (wa.drewN nq).cell? ⟨g3, 7, none⟩ = _ := e7
      generalize wa.drewN nq = wb at *
      generalize hT : vh + bs1 ve + chU ve vf vg + KK + WW = T
      have HT := Lib.hid hT; clear hT
      generalize bs1 ve = B1
      generalize chU ve vf vg = CH
      go_wp2_with fail
      go_quiet (first | (go_at_call 157; exact Calls.quiet_of (rotl_quiet _ _ _ 2 rfl (by decide) (by decide))) | (go_at_call 157; exact Calls.quiet_of (rotl_quiet _ _ _ 13 rfl (by decide) (by decide))) | (go_at_call 157; exact Calls.quiet_of (rotl_quiet _ _ _ 22 rfl (by decide) (by decide))))
      rw [bs0_val, ma_val, u32_add]
      have HC := Lib.hid (show (wb.drewN nq).heap[g3]? = _ from HC.out)
      have ht := ht.drewN nq
      have e0 : (wb.drewN nq).cell? ⟨g3, 0, none⟩ = _ := e0
      have e1 : (wb.drewN nq).cell? ⟨g3, 1, none⟩ = _ := e1
      have e2 : (wb.drewN nq).cell? ⟨g3, 2, none⟩ = _ := e2
      have e3 : (wb.drewN nq).cell? ⟨g3, 3, none⟩ = _ := e3
      have e4 : (wb.drewN nq).cell? ⟨g3, 4, none⟩ = _ := e4
      have e5 : (wb.drewN nq).cell? ⟨g3, 5, none⟩ = _ := e5
      have e6 : (wb.drewN nq).cell? ⟨g3, 6, none⟩ = _ := e6
      have e7 : (wb.drewN nq).cell? ⟨g3, 7, none⟩ = _ := e7
      generalize wb.drewN nq = wc at *
      generalize hU : bs0 va + maU va vb vc = U
      have HU := Lib.hid hU; clear hU
      generalize bs0 va = B0
      generalize maU va vb vc = MA
      go_wp2_with (refine wpList_store_blk rfl 220 _ _ rfl g3 _ _ _ rfl rfl HC.out (by rfl) (by exact HS8.out) (by simp [Value.oneCell']) ?_)
      intro w9 c4 t9 s9
      have hc4 : w9.heap[g3]? = some (.cells (uws (roundsOf (wordsOf s 64) h8 (k + 1)).list).toArray 220 (0, 0)) := by
        rw [c4, HSTEP.out, u32_add, u32_add]
        simp only [round, roundT, roundU, V8.list, HT.out, HU.out]
        rfl
      have HC4 := Lib.hid hc4; clear hc4 c4
      have ht9 := ht.trans t9 fun _ _ e => e
      clear t9 s9
      go_wp2
      exact ⟨⟨k + 1, by omega, by go_num, HC4, ht9⟩, by simp [intOf]; omega⟩
    · obtain rfl : k = 64 := by omega
      have HG9 := Lib.hid (ht.obj HG8.out (by omega))
      have T9 : Hid (Turn (fun k => k = g) w wr) := Lib.hid (T8.out.trans ht fun i hi e => by omega)
      have hne : g ≠ g3 := by omega
      clear C1 C2 C3 T8 ht HG8
      generalize hv : roundsOf (wordsOf s 64) h8 64 = v at HC
      have HV := Lib.hid hv; clear hv
      go_wp2
      go_loopw [12, 102] (fun _ i wr4 => ∃ k : Nat, k ≤ 8 ∧ i = .int .i64 (k : Nat) ∧ Hid (wr4.heap[g]? = some (.cells (uws (addCur h8 v k) ++ tl).toArray 222 (0, 0))) ∧ Turn (fun b => b = g) wr wr4) (fun _ i _ => 8 - (intOf i).toNat)
      case atStart => exact ⟨0, by omega, rfl, Lib.hid HG9.out, Turn.refl _ _⟩
      case round =>
        obtain ⟨k, hk, rfl, HD, ht⟩ := hrel
        by_cases hlk : k < 8
        · have e0 := tl_cell HD.out k (by rw [addCur_length h8 v k hk]; exact hlk)
          rw [addCur_get h8 v k hlk] at e0
          have e1 := uws_cell (ht.obj HC.out (by omega)) k (by show _ < 8; exact hlk)
          have hset := fun W (hW : W.heap[g]? = some (.cells (uws (addCur h8 v k) ++ tl).toArray 222 (0, 0))) => (heap_set_cell (w := W) (k := k) (v := uw (h8.list.getD k 0 + v.list.getD k 0)) hW).trans (by rw [tl_set (by rw [addCur_length h8 v k hk]; exact hlk) (addCur_set h8 v k hlk)])
          have HSET := Lib.hid hset; clear hset
          have hfr := frozen_of_row _ g k _ _ HD.out
          generalize h8.list.getD k 0 = X at e0 HSET
          generalize v.list.getD k 0 = Y2 at e1 HSET
          have q8 : (k : Int) < 8 := by omega
          have q0 : 0 ≤ (k : Int) := by omega
          go_wp2_with fail
          go_still_tail 13, (by kernel_rfl)
          rw [add_val]
          generalize X + Y2 = V at HSET ⊢
          go_wp2
          refine ⟨?_, ?measure⟩
          repeat apply Exists.intro
          refine ⟨?rel, rfl⟩
          case rel => exact ⟨k + 1, by omega, by go_num, Lib.hid (HSET.out _ HD.out), (ht.setCell (fun _ => rfl) _).drew⟩
          case measure => simp [intOf]; omega
        · obtain rfl : k = 8 := by omega
          have hfin : addCur h8 v 8 = (blockV h8 s).list := by rw [← HV.out]; rfl
          have d0 := HD.out
          rw [hfin] at d0
          have D0 := Lib.hid d0
          have T10 := Lib.hid (T9.out.trans ht fun i hi e => e)
          clear d0 HD ht T9 HC HG9 hfin
          go_wp2
          try simp only [Exit.inBlock, Exit.then]
          exact bodyPost_end (results_none rfl _ _ _) rfl ⟨rfl, T10.out, D0.out⟩
end Go.Proofs.Ytcfbmbhkdicpfaa
