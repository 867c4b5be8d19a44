/- Chapter 22: what every program answers that is one. -/
import Derived.Test.YtigkmdjdnkbdkaaMsg7
namespace Go.Proofs.Ytigkmdjdnkbdkaa
open Go.RowKit
set_option maxRecDepth 100000

theorem mget_of {m : MsgP} (h : mayM m = true) (hf : m.fit) : mgetV (msgB m) = (m, 0) := by rw [mgetV, mparse_of h hf]
theorem mput_ok {m : MsgP} (h : mayM m = true) : mputV m = (msgB m, 0) := by rw [mputV, if_pos h]
theorem mput_no {m : MsgP} (h : mayM m = false) : mputV m = ([], 2200) := by rw [mputV, if_neg (by rw [h]; decide)]
theorem mget_bad {s : List UInt8} (h : (mgetV s).2 ≠ 0) : mgetV s = (MsgP0, 2200) := by
  unfold mgetV at h ⊢
  cases hp : mparse s with
  | none => rfl
  | some m => rw [hp] at h; exact absurd rfl h
def bare (k u f : Int) : Msg := ⟨⟨k, u, f, [], [], []⟩, [], .slice none 0 0, .slice none 0 0, .slice none 0 0⟩
theorem bare_at (k u f : Int) (w : World) : MsgAt w (bare k u f) := ⟨ents_nil w, rfl, rows_nil _ _ _, Nat.zero_le _, rows_nil _ _ _, Nat.zero_le _, fun _ h => by simp [bare] at h⟩
def P3 : MsgP := ⟨3, 0, 0, [], [List.replicate 32 0], [[97, 98]]⟩
theorem p3 : mayM P3 = true ∧ (msgB P3).length = 45 := by decide +kernel
theorem p1 : mayM (bare 0 3 258).p = true ∧ msgB (bare 0 3 258).p = [77, 71, 0, 3, 1, 2, 0, 0, 0] := by decide +kernel
theorem p2 : mayM (bare (-1) 0 0).p = false := by decide +kernel
theorem g2 : mgetV [77, 71] = (MsgP0, 2200) := mgetN (by decide +kernel)
theorem zero28c : (Try.prog.info? 45).map (fun i => (i.zero, i.size, i.bytes)) = some (some (Value.agg (u8s (List.replicate 32 0)).toArray), 32, 32) := by kernel_rfl
theorem made28 : madeCells (Value.agg (u8s (List.replicate 32 0)).toArray).cells 32 = (u8s (List.replicate 32 0)).toArray := by kernel_rfl
theorem make28 (w : World) : (Instr.makeSlice 23 (.int .i64 1) (.int .i64 1)).run Try.prog w = .ok (.slice (some ⟨w.heap.size, 0, none⟩) 1 1) (w.alloc (.cells (u8s (List.replicate 32 0)).toArray 45)) := by
  have h := zero28c
  cases hi : Try.prog.info? 45 with
  | none => rw [hi] at h; simp at h
  | some i =>
    rw [hi] at h
    simp only [Option.map_some, Option.some.injEq, Prod.mk.injEq] at h
    have := run_make (P := Try.prog) w 23 45 i _ Try.underlying23 hi h.1 .i64 .i64 1 1 (by omega) (by omega) (by rw [h.2.2]; omega) (by omega)
    rw [this, h.2.1]
    show Result.ok _ (w.alloc (.cells (madeCells (Value.agg (u8s (List.replicate 32 0)).toArray).cells 32) 45)) = _
    rw [made28]
    rfl

set_option maxHeartbeats 8000000 in
theorem awake22 (w : World) : Calls Try.prog 13 #[] w fun e w' => e = .returned (.bool true) ∧ Pure w w' := by
  obtain ⟨a1, a2⟩ := p1
  have hp1 := fun W => mPut_any W (bare 0 3 258) (bare_at _ _ _ W)
  have hg1 := fun W => mGet_any W (msgB (bare 0 3 258).p) (by rw [a2]; decide)
  rw [mput_ok a1] at hp1
  have hfit : (bare 0 3 258).p.fit := ⟨fun e h => by simp [bare] at h, fun e h => by simp [bare] at h⟩
  rw [mget_of a1 hfit] at hg1
  have hp2 := fun W => mPut_any W (bare (-1) 0 0) (bare_at _ _ _ W)
  rw [mput_no p2] at hp2
  have hg2 := fun W => mGet_any W [77, 71] (by decide)
  rw [g2] at hg2
  have hC2 : (msgC (bare (-1) 0 0)).toArray = #[.int .i64 (-1), .int .i64 0, .int .i64 0, .slice none 0 0, .slice none 0 0, .slice none 0 0] := rfl
  rw [hC2] at hp2
  obtain ⟨S, hS⟩ : ∃ S, S = msgB (bare 0 3 258).p := ⟨_, rfl⟩
  rw [← hS] at hp1 hg1 a2
  have HP1 := Lib.hid hp1; have HG1 := Lib.hid hg1; have HP2 := Lib.hid hp2; have HG2 := Lib.hid hg2; have HS := Lib.hid a2
  clear hp1 hg1 hp2 hg2 a1 a2 hS hfit hC2
  obtain ⟨ZM, hZM⟩ : ∃ Z, Z = msgC Msg0 := ⟨_, rfl⟩
  have HZL : ZM.length = 6 := by rw [hZM]; rfl
  have hzm := zeroM
  rw [← hZM] at hzm
  have HZM := Lib.hid hzm
  clear hzm hZM
  go_enter Try.func13, Try.ntmps13
  -- WALK
  have PT : Hid (Pure w w) := Lib.hid (Turn.refl _ _)
  go_wp2_with (refine wpList_allocZ rfl 26 rfl _ HZM.out ?_)
  intro g1 w1 e1 c1 t1 s1
  have lg1 : w.heap.size ≤ g1 := by have := PT.out.size; omega
  have PT := Lib.hid (PT.out.pure t1)
  clear e1 s1 t1
  go_wp2_with (refine wpList_store_blk rfl 26 _ _ rfl g1 _ (msgC (bare 0 3 258)) _ rfl rfl c1 (by rw [List.size_toArray, HZL]; rfl) infoM (msgC_one (bare_at 0 3 258 w)) ?_)
  intro w2 c2 t2 s2
  clear s2
  have PT := Lib.hid (PT.out.newer t2 lg1); have D1 := Lib.hid c2
  clear c1 c2 t2
  have R1 := range_of_row D1.out
  go_wp2_with (refine wpList_load_mid rfl 26 _ rfl g1 0 rfl (msgC (bare 0 3 258)) _ R1 Try.underlying26 rfl infoM ?_)
  refine (HP1.out _).mono ?_
  rintro e w3 ⟨rfl, t3⟩
  have D1 := Lib.hid (t3.obj D1.out (fun e => e)); have PT := Lib.hid (PT.out.pure t3)
  clear t3
  clear R1
  go_wp2_with fail
  refine (HG1.out _).mono ?_
  rintro e w4 ⟨m, rfl, hm, hma, t4⟩
  have hxo := msgC_one hma
  have D1 := Lib.hid (t4.obj D1.out (fun e => e)); have PT := Lib.hid (PT.out.pure t4)
  have HMA := Lib.hid hma
  have hxl : (msgC m).length = 6 := rfl
  obtain ⟨CX, hCX⟩ : ∃ c, c = msgC m := ⟨_, rfl⟩
  rw [← hCX] at hxo hxl ⊢
  have HCX := Lib.hid hCX
  clear t4 hma hCX
  have hxi : (Try.prog.info? 26).map (·.size) = some CX.length := by rw [hxl]; exact infoM
  have PM : Hid (Pure w4 w4) := Lib.hid (Turn.refl _ _)
  go_wp2_with (refine wpList_allocZ rfl 26 rfl _ HZM.out ?_)
  intro g4 w5 e5 c5 t5 s5
  have lg4 : w.heap.size ≤ g4 := by have := PT.out.size; omega
  have lmg4 : w4.heap.size ≤ g4 := by have := PM.out.size; omega
  have nD1g4 : g1 ≠ g4 := by have := (Array.getElem?_eq_some_iff.1 D1.out).1; omega
  have PM := Lib.hid (PM.out.pure t5); have D1 := Lib.hid (t5.obj D1.out (fun e => e)); have PT := Lib.hid (PT.out.pure t5)
  clear e5 s5 t5
  go_wp2_with (refine wpList_store_blk rfl 26 _ _ rfl g4 _ (CX) _ rfl rfl c5 (by rw [List.size_toArray, HZL, hxl]) hxi hxo ?_)
  intro w6 c6 t6 s6
  clear s6
  have D1 := Lib.hid (t6.obj D1.out nD1g4); have PM := Lib.hid (PM.out.newer t6 lmg4); have PT := Lib.hid (PT.out.newer t6 lg4); have D4 := Lib.hid c6
  clear c5 c6 t6
  go_wp2_with fail
  refine (HP2.out _).mono ?_
  rintro e w7 ⟨rfl, t7⟩
  have PM := Lib.hid (PM.out.pure t7); have D1 := Lib.hid (t7.obj D1.out (fun e => e)); have D4 := Lib.hid (t7.obj D4.out (fun e => e)); have PT := Lib.hid (PT.out.pure t7)
  clear t7
  go_wp2_with fail
  refine (HG2.out _).mono ?_
  rintro e w8 ⟨m2, rfl, hm2, hma2, t8⟩
  have hyo := msgC_one hma2
  have PM := Lib.hid (PM.out.pure t8); have D1 := Lib.hid (t8.obj D1.out (fun e => e)); have D4 := Lib.hid (t8.obj D4.out (fun e => e)); have PT := Lib.hid (PT.out.pure t8)
  have hyl : (msgC m2).length = 6 := rfl
  obtain ⟨CY, hCY⟩ : ∃ c, c = msgC m2 := ⟨_, rfl⟩
  rw [← hCY] at hyo hyl ⊢
  clear t8 hma2 hCY hm2
  have hyi : (Try.prog.info? 26).map (·.size) = some CY.length := by rw [hyl]; exact infoM
  go_wp2_with (refine wpList_allocZ rfl 26 rfl _ HZM.out ?_)
  intro g8 w9 e9 c9 t9 s9
  have lg8 : w.heap.size ≤ g8 := by have := PT.out.size; omega
  have lmg8 : w4.heap.size ≤ g8 := by have := PM.out.size; omega
  have nD1g8 : g1 ≠ g8 := by have := (Array.getElem?_eq_some_iff.1 D1.out).1; omega
  have nD4g8 : g4 ≠ g8 := by have := (Array.getElem?_eq_some_iff.1 D4.out).1; omega
  have PM := Lib.hid (PM.out.pure t9); have D1 := Lib.hid (t9.obj D1.out (fun e => e)); have D4 := Lib.hid (t9.obj D4.out (fun e => e)); have PT := Lib.hid (PT.out.pure t9)
  clear e9 s9 t9
  go_wp2_with (refine wpList_store_blk rfl 26 _ _ rfl g8 _ (CY) _ rfl rfl c9 (by rw [List.size_toArray, HZL, hyl]) hyi hyo ?_)
  intro w10 c10 t10 s10
  clear s10
  have D1 := Lib.hid (t10.obj D1.out nD1g8); have D4 := Lib.hid (t10.obj D4.out nD4g8); have PM := Lib.hid (PM.out.newer t10 lmg8); have PT := Lib.hid (PT.out.newer t10 lg8); have D8 := Lib.hid c10
  clear c9 c10 t10
  obtain ⟨z, hz⟩ : ∃ z : List UInt8, z = List.replicate 32 0 := ⟨_, rfl⟩
  have hzl : z.length = 32 := by rw [hz]; rfl
  have hmk : ∀ W : World, (Instr.makeSlice 23 (.int .i64 1) (.int .i64 1)).run Try.prog W = .ok (.slice (some ⟨W.heap.size, 0, none⟩) 1 1) (W.alloc (.cells (u8s z).toArray 45)) := fun W => by rw [hz]; exact make28 W
  have HZ := Lib.hid hz; clear hz
  go_wp2_with fail
  clear hmk
  obtain ⟨WA, hWA⟩ : ∃ W, W = w10.alloc (.cells #[.string (bstr [97, 98])] 9) := ⟨_, rfl⟩
  have ra : WA.heap[w10.heap.size]? = some (.cells #[.string (bstr [97, 98])] 9 (0, 0)) := by rw [hWA]; exact heap_alloc_new _ _
  have pa : Pure w10 WA := by rw [hWA]; exact (Turn.refl _ _).alloc _
  have za : WA.heap.size = w10.heap.size + 1 := by rw [hWA]; simp
  rw [show w10.alloc (.cells #[.string ⟨#[97, 98]⟩] 9) = WA from hWA.symm]
  clear hWA
  obtain ⟨WB, hWB⟩ : ∃ W, W = WA.alloc (.cells (u8s z).toArray 45) := ⟨_, rfl⟩
  have rb : WB.heap[WA.heap.size]? = some (.cells (u8s z).toArray 45 (0, 0)) := by rw [hWB]; exact heap_alloc_new _ _
  have pb : Pure WA WB := by rw [hWB]; exact (Turn.refl _ _).alloc _
  rw [← hWB, ← za]
  clear hWB
  have hat : MsgAt WB ⟨P3, [], .slice none 0 0, .slice (some ⟨WA.heap.size, 0, none⟩) 1 1, .slice (some ⟨w10.heap.size, 0, none⟩) 1 1⟩ := by
    refine ⟨ents_nil _, rfl, ⟨_, 1, rfl, Nat.le_refl _, fun _ => ⟨_, 0, rfl, ?_⟩, ?_⟩, (show P3.wants.length ≤ _ from by decide), ⟨_, 1, rfl, Nat.le_refl _, fun _ => ⟨_, 0, rfl, ?_⟩, ?_⟩, (show P3.objs.length ≤ _ from by decide), ?_⟩
    · rw [show rowOf u8s P3.wants = u8s z by rw [HZ.out]; rfl]; exact range_of_row rb
    · intro x hx; rw [show P3.wants = [List.replicate 32 0] from rfl, List.mem_singleton] at hx; rw [hx]; rfl
    · exact pb.range (range_of_row (l := rowOf txtC P3.objs) ra) (fun e => e)
    · intro x hx; rfl
    · intro t ht; rw [show P3.objs = [[97, 98]] from rfl, List.mem_singleton] at ht; rw [ht]; decide
  have hp3 := mPut_any WB _ hat
  obtain ⟨b1, b2⟩ := p3
  rw [mput_ok b1] at hp3
  obtain ⟨Y, hY⟩ : ∃ Y, Y = msgB P3 := ⟨_, rfl⟩
  rw [← hY] at hp3 b2
  have hp9 := pa.trans pb (fun _ _ e => e)
  have PM := Lib.hid (PM.out.pure hp9); have D1 := Lib.hid (hp9.obj D1.out (fun e => e)); have D4 := Lib.hid (hp9.obj D4.out (fun e => e)); have D8 := Lib.hid (hp9.obj D8.out (fun e => e)); have PT := Lib.hid (PT.out.pure hp9)
  have HP3 := Lib.hid hp3; have HB2 := Lib.hid b2
  clear hp3 b1 b2 hY hat pa pb ra rb hp9 za
  refine (HP3.out).mono ?_
  rintro e w20 ⟨rfl, t20⟩
  have PM := Lib.hid (PM.out.pure t20); have D1 := Lib.hid (t20.obj D1.out (fun e => e)); have D4 := Lib.hid (t20.obj D4.out (fun e => e)); have D8 := Lib.hid (t20.obj D8.out (fun e => e)); have PT := Lib.hid (PT.out.pure t20)
  clear t20 HP3
  obtain ⟨N, hN⟩ : ∃ N, N = Y.length := ⟨_, rfl⟩
  have hzY : (bstr Y).size = N := by rw [bstr_size, hN]
  have hN2 : N = 45 := by rw [hN]; exact HB2.out
  have qN : ((N : Int) == 45) = true := by rw [hN2]; rfl
  clear hN hN2 HB2
  have qS : (S == [77, 71, 0, 3, 1, 2, 0, 0, 0]) = true := by rw [HS.out]; rfl
  go_wp2_with fail
  refine (Num_any _ _).mono ?_
  rintro e w21 ⟨rfl, rfl⟩
  have R4 := range_of_row D4.out; have R1 := range_of_row D1.out
  go_wp2_with (first | (refine wpList_load_mid_w (by rfl) 26 _ rfl g4 0 rfl CX _ R4 Try.underlying26 rfl hxi ?_) | (refine wpList_load_mid_w (by rfl) 26 _ rfl g1 0 rfl (msgC (bare 0 3 258)) _ R1 Try.underlying26 rfl infoM ?_))
  clear R4 R1
  have hes : m.es = [] := by have h := HMA.out.same; rw [hm] at h; exact List.map_eq_nil_iff.1 h
  have hsm := sameMsg_eq _ m (bare 0 3 258) (HMA.out.pure PM.out) (bare_at _ _ _ _) hm (by rw [hes]; intro e he; simp at he)
  rw [← HCX.out] at hsm
  refine hsm.mono ?_
  rintro e w22 ⟨rfl, t22⟩
  have PT := Lib.hid (PT.out.pure t22)
  clear t22 hsm hes PM
  go_wp2_with fail
  refine (Num_any _ _).mono ?_
  rintro e w23 ⟨rfl, rfl⟩
  go_wp2_with fail
  refine (Num_any _ _).mono ?_
  rintro e w24 ⟨rfl, rfl⟩
  go_wp2_with fail
  refine (Num_any _ _).mono ?_
  rintro e w25 ⟨rfl, rfl⟩
  go_wp2_with fail
  refine (Num_any _ _).mono ?_
  rintro e w26 ⟨rfl, rfl⟩
  go_wp2
  go_ret
  exact ⟨rfl, PT.out⟩
end Go.Proofs.Ytigkmdjdnkbdkaa
