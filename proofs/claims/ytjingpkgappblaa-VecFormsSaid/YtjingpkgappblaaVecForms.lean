/- The law VecForms, walked. -/
import Derived.Test.YtjingpkgappblaaAwake18
namespace Go.Proofs.Ytjingpkgappblaa
open Go.RowKit

theorem i64_and63_nat (x : Int) : ∃ k : Nat, bits .and .i64 x 63 = (k : Int) ∧ k < 64 := by
  have h63 : (BitVec.ofInt 64 63).toNat = 2 ^ 6 - 1 := by decide
  have key : (BitVec.ofInt 64 x &&& BitVec.ofInt 64 63).toNat = (x % ((2 ^ 64 : Nat) : Int)).toNat % 2 ^ 6 := by
    rw [BitVec.toNat_and, BitVec.toNat_ofInt, h63, Nat.and_two_pow_sub_one_eq_mod]
  have e : bits .and .i64 x 63 = x % 64 := by
    show IntKind.i64.wrap ((BitVec.ofInt 64 x &&& BitVec.ofInt 64 63).toNat : Nat) = x % 64
    rw [key, IntKind.wrap_i64]
    omega
  rw [e]
  exact ⟨(x % 64).toNat, by omega, by omega⟩

/-- Two rows, made one behind the other. -/
theorem two_rows (w : World) (l m : List Int) (n1 n2 : Nat) (h1 : n1 = l.length) (h2 : n2 = m.length) (k1 : ∀ x ∈ l, -9223372036854775808 ≤ x ∧ x ≤ 9223372036854775807) (k2 : ∀ x ∈ m, -9223372036854775808 ≤ x ∧ x ≤ 9223372036854775807) (j1 : l.length ≤ 17592186044416) (j2 : m.length ≤ 17592186044416) :
    Ints ((w.alloc (.cells (ints l).toArray 3)).alloc (.cells (ints m).toArray 3)) (.slice (some ⟨w.heap.size, 0, none⟩) n1 n1) l ∧
    Ints ((w.alloc (.cells (ints l).toArray 3)).alloc (.cells (ints m).toArray 3)) (.slice (some ⟨w.heap.size + 1, 0, none⟩) n2 n2) m ∧
    Pure w ((w.alloc (.cells (ints l).toArray 3)).alloc (.cells (ints m).toArray 3)) := by
  refine ⟨ints_at (T := 3) (fr := (0, 0)) (((Turn.refl (fun _ => False) _).alloc _).obj (heap_alloc_new _ _) (fun e => e)) h1 k1 j1, ints_at (T := 3) (fr := (0, 0)) ?_ h2 k2 j2, ((Turn.refl _ w).alloc _).alloc _⟩
  have := heap_alloc_new (w.alloc (.cells (ints l).toArray 3)) (.cells (ints m).toArray 3)
  have e : ∀ o, (w.alloc o).heap.size = w.heap.size + 1 := by intro o; simp
  rw [e] at this
  exact this
theorem Ints.far {S : Nat → Prop} {w w' : World} {ao : Option Addr} {n c : Nat} {l : List Int} (h : Ints w (.slice ao n c) l) (ht : Turn S w w') (hn : ∀ a, ao = some a → ¬ S a.block) : Ints w' (.slice ao n c) l := by
  obtain ⟨ao', c', e, h2, h3, h4, h5⟩ := h
  simp at e
  obtain ⟨rfl, rfl, rfl⟩ := e
  refine ⟨ao, c, rfl, h2, h3, h4, fun i x hx => ?_⟩
  obtain ⟨q1, q2, b, o, q3, q4⟩ := h5 i x hx
  exact ⟨q1, q2, b, o, q3, ht.cell q4 (by have := hn _ q3; exact this)⟩
theorem not_fit {l m : List Int} (h : fitB l m = false) : belowV l m = (false, 1800) ∧ joinV l m = ([], 1800) ∧ apartV l m = (false, 1800) := by
  refine ⟨?_, ?_, ?_⟩ <;> simp [belowV, joinV, apartV, h]
set_option maxRecDepth 100000 in
set_option maxHeartbeats 2000000 in
theorem VecForms_0 (w : World) (which x : Int) (M : Nat) (hM : bits .and .i64 x 63 = (M : Int)) (hM1 : M < 64) (h0 : ((IntKind.u64.wrap which).tmod 6 == 0) = true) :
    Calls Try.prog 5 #[.int .i64 which, .int .i64 x] w fun e w' => e = .returned (.bool true) ∧ Pure w w' := by
  have HF : Hid _ := Lib.hid (not_fit (l := []) (m := [2, 1]) (by decide))
  go_enter Try.func5, Try.ntmps5
  go_wp2_with fail
  refine (awake18_any _).mono ?_
  rintro e w1 ⟨rfl, ht⟩
  obtain ⟨ra, rb, rp⟩ := two_rows w1 [1, 2] [2, 1] 2 2 rfl rfl (by decide) (by decide) (by simp) (by simp)
  have ra := Lib.hid ra; have rb := Lib.hid rb; have rp := Lib.hid (ht.pure rp); clear ht
  go_wp2_with fail
  have ha := Ints.nil ((w1.alloc (.cells (ints [1, 2]).toArray 3)).alloc (.cells (ints [2, 1]).toArray 3)); have hb := rb.out; have hp := rp.out
  have HA := Lib.hid ha; have HB := Lib.hid hb; have HP := Lib.hid hp
  clear ha hb hp
  refine (Below_any _ _ _ _ _ HA.out HB.out).mono ?_
  rintro e w2 ⟨rfl, h2⟩
  rw [HF.out.1]
  have hA := Lib.hid (HA.out.pure h2)
  have hB := Lib.hid (HB.out.pure h2)
  have hP := Lib.hid (HP.out.pure h2)
  clear HA HB HP h2
  go_wp2_with fail
  refine (Join_any _ _ _ _ _ hA.out hB.out).mono ?_
  rintro e w3 ⟨⟨j, rfl, hj⟩, h2⟩
  rw [HF.out.2.1] at hj ⊢
  obtain ⟨ja, jc, rfl, _⟩ := hj
  have hA := Lib.hid (hA.out.pure h2)
  have hB := Lib.hid (hB.out.pure h2)
  have hP := Lib.hid (hP.out.pure h2)
  clear h2
  go_wp2_with fail
  refine (Apart_any _ _ _ _ _ hA.out hB.out).mono ?_
  rintro e w4 ⟨rfl, h2⟩
  rw [HF.out.2.2]
  have hP := Lib.hid (hP.out.pure h2)
  clear hA hB h2
  go_wp2_with (go_at_call 19; refine (Num_any _ _).mono ?_; rintro e w9 ⟨rfl, rfl⟩)
  go_ret
  exact ⟨rfl, hP.out⟩
set_option maxRecDepth 100000 in
set_option maxHeartbeats 2000000 in
theorem VecForms_1 (w : World) (which x : Int) (M : Nat) (hM : bits .and .i64 x 63 = (M : Int)) (hM1 : M < 64) (h0 : ((IntKind.u64.wrap which).tmod 6 == 0) = false) (h1 : ((IntKind.u64.wrap which).tmod 6 == 1) = true) :
    Calls Try.prog 5 #[.int .i64 which, .int .i64 x] w fun e w' => e = .returned (.bool true) ∧ Pure w w' := by
  have HF : Hid _ := Lib.hid (not_fit (l := [1, 2]) (m := []) (by decide))
  go_enter Try.func5, Try.ntmps5
  go_wp2_with fail
  refine (awake18_any _).mono ?_
  rintro e w1 ⟨rfl, ht⟩
  obtain ⟨ra, rb, rp⟩ := two_rows w1 [1, 2] [2, 1] 2 2 rfl rfl (by decide) (by decide) (by simp) (by simp)
  have ra := Lib.hid ra; have rb := Lib.hid rb; have rp := Lib.hid (ht.pure rp); clear ht
  go_wp2_with fail
  have ha := ra.out; have hb := Ints.nil ((w1.alloc (.cells (ints [1, 2]).toArray 3)).alloc (.cells (ints [2, 1]).toArray 3)); have hp := rp.out
  have HA := Lib.hid ha; have HB := Lib.hid hb; have HP := Lib.hid hp
  clear ha hb hp
  refine (Below_any _ _ _ _ _ HA.out HB.out).mono ?_
  rintro e w2 ⟨rfl, h2⟩
  rw [HF.out.1]
  have hA := Lib.hid (HA.out.pure h2)
  have hB := Lib.hid (HB.out.pure h2)
  have hP := Lib.hid (HP.out.pure h2)
  clear HA HB HP h2
  go_wp2_with fail
  refine (Join_any _ _ _ _ _ hA.out hB.out).mono ?_
  rintro e w3 ⟨⟨j, rfl, hj⟩, h2⟩
  rw [HF.out.2.1] at hj ⊢
  obtain ⟨ja, jc, rfl, _⟩ := hj
  have hA := Lib.hid (hA.out.pure h2)
  have hB := Lib.hid (hB.out.pure h2)
  have hP := Lib.hid (hP.out.pure h2)
  clear h2
  go_wp2_with fail
  refine (Apart_any _ _ _ _ _ hA.out hB.out).mono ?_
  rintro e w4 ⟨rfl, h2⟩
  rw [HF.out.2.2]
  have hP := Lib.hid (hP.out.pure h2)
  clear hA hB h2
  go_wp2_with (go_at_call 19; refine (Num_any _ _).mono ?_; rintro e w9 ⟨rfl, rfl⟩)
  go_ret
  exact ⟨rfl, hP.out⟩
set_option maxRecDepth 100000 in
set_option maxHeartbeats 2000000 in
theorem VecForms_2 (w : World) (which x : Int) (M : Nat) (hM : bits .and .i64 x 63 = (M : Int)) (hM1 : M < 64) (h0 : ((IntKind.u64.wrap which).tmod 6 == 0) = false) (h1 : ((IntKind.u64.wrap which).tmod 6 == 1) = false) (h2 : ((IntKind.u64.wrap which).tmod 6 == 2) = true) :
    Calls Try.prog 5 #[.int .i64 which, .int .i64 x] w fun e w' => e = .returned (.bool true) ∧ Pure w w' := by
  have HF : Hid _ := Lib.hid (not_fit (l := [-(1 + (M : Int)), 2]) (m := [2, 1]) (by simp [fitB, mayB, inB]; omega))
  go_enter Try.func5, Try.ntmps5
  go_wp2_with fail
  refine (awake18_any _).mono ?_
  rintro e w1 ⟨rfl, ht⟩
  obtain ⟨ra, rb, rp⟩ := two_rows w1 [-(1 + (M : Int)), 2] [2, 1] 2 2 rfl rfl (by intro x hx; simp at hx; omega) (by decide) (by simp) (by simp)
  have ra := Lib.hid ra; have rb := Lib.hid rb; have rp := Lib.hid (ht.pure rp); clear ht
  go_wp2_with fail
  have ha := ra.out; have hb := rb.out; have hp := rp.out
  have HA := Lib.hid ha; have HB := Lib.hid hb; have HP := Lib.hid hp
  clear ha hb hp
  refine (Below_any _ _ _ _ _ HA.out HB.out).mono ?_
  rintro e w2 ⟨rfl, h2⟩
  rw [HF.out.1]
  have hA := Lib.hid (HA.out.pure h2)
  have hB := Lib.hid (HB.out.pure h2)
  have hP := Lib.hid (HP.out.pure h2)
  clear HA HB HP h2
  go_wp2_with fail
  refine (Join_any _ _ _ _ _ hA.out hB.out).mono ?_
  rintro e w3 ⟨⟨j, rfl, hj⟩, h2⟩
  rw [HF.out.2.1] at hj ⊢
  obtain ⟨ja, jc, rfl, _⟩ := hj
  have hA := Lib.hid (hA.out.pure h2)
  have hB := Lib.hid (hB.out.pure h2)
  have hP := Lib.hid (hP.out.pure h2)
  clear h2
  go_wp2_with fail
  refine (Apart_any _ _ _ _ _ hA.out hB.out).mono ?_
  rintro e w4 ⟨rfl, h2⟩
  rw [HF.out.2.2]
  have hP := Lib.hid (hP.out.pure h2)
  clear hA hB h2
  go_wp2_with (go_at_call 19; refine (Num_any _ _).mono ?_; rintro e w9 ⟨rfl, rfl⟩)
  go_ret
  exact ⟨rfl, hP.out⟩
set_option maxRecDepth 100000 in
set_option maxHeartbeats 2000000 in
theorem VecForms_3 (w : World) (which x : Int) (M : Nat) (hM : bits .and .i64 x 63 = (M : Int)) (hM1 : M < 64) (h0 : ((IntKind.u64.wrap which).tmod 6 == 0) = false) (h1 : ((IntKind.u64.wrap which).tmod 6 == 1) = false) (h2 : ((IntKind.u64.wrap which).tmod 6 == 2) = false) (h3 : ((IntKind.u64.wrap which).tmod 6 == 3) = true) :
    Calls Try.prog 5 #[.int .i64 which, .int .i64 x] w fun e w' => e = .returned (.bool true) ∧ Pure w w' := by
  have HF : Hid _ := Lib.hid (not_fit (l := [1, 2]) (m := [2, 256 + (1 + (M : Int))]) (by simp [fitB, mayB, inB]; omega))
  go_enter Try.func5, Try.ntmps5
  go_wp2_with fail
  refine (awake18_any _).mono ?_
  rintro e w1 ⟨rfl, ht⟩
  obtain ⟨ra, rb, rp⟩ := two_rows w1 [1, 2] [2, 256 + (1 + (M : Int))] 2 2 rfl rfl (by decide) (by intro x hx; simp at hx; omega) (by simp) (by simp)
  have ra := Lib.hid ra; have rb := Lib.hid rb; have rp := Lib.hid (ht.pure rp); clear ht
  go_wp2_with fail
  have ha := ra.out; have hb := rb.out; have hp := rp.out
  have HA := Lib.hid ha; have HB := Lib.hid hb; have HP := Lib.hid hp
  clear ha hb hp
  refine (Below_any _ _ _ _ _ HA.out HB.out).mono ?_
  rintro e w2 ⟨rfl, h2⟩
  rw [HF.out.1]
  have hA := Lib.hid (HA.out.pure h2)
  have hB := Lib.hid (HB.out.pure h2)
  have hP := Lib.hid (HP.out.pure h2)
  clear HA HB HP h2
  go_wp2_with fail
  refine (Join_any _ _ _ _ _ hA.out hB.out).mono ?_
  rintro e w3 ⟨⟨j, rfl, hj⟩, h2⟩
  rw [HF.out.2.1] at hj ⊢
  obtain ⟨ja, jc, rfl, _⟩ := hj
  have hA := Lib.hid (hA.out.pure h2)
  have hB := Lib.hid (hB.out.pure h2)
  have hP := Lib.hid (hP.out.pure h2)
  clear h2
  go_wp2_with fail
  refine (Apart_any _ _ _ _ _ hA.out hB.out).mono ?_
  rintro e w4 ⟨rfl, h2⟩
  rw [HF.out.2.2]
  have hP := Lib.hid (hP.out.pure h2)
  clear hA hB h2
  go_wp2_with (go_at_call 19; refine (Num_any _ _).mono ?_; rintro e w9 ⟨rfl, rfl⟩)
  go_ret
  exact ⟨rfl, hP.out⟩
set_option maxRecDepth 100000 in
set_option maxHeartbeats 2000000 in
theorem VecForms_4 (w : World) (which x : Int) (M : Nat) (hM : bits .and .i64 x 63 = (M : Int)) (hM1 : M < 64) (h0 : ((IntKind.u64.wrap which).tmod 6 == 0) = false) (h1 : ((IntKind.u64.wrap which).tmod 6 == 1) = false) (h2 : ((IntKind.u64.wrap which).tmod 6 == 2) = false) (h3 : ((IntKind.u64.wrap which).tmod 6 == 3) = false) (h4 : ((IntKind.u64.wrap which).tmod 6 == 4) = true) :
    Calls Try.prog 5 #[.int .i64 which, .int .i64 x] w fun e w' => e = .returned (.bool true) ∧ Pure w w' := by
  have HF : Hid _ := Lib.hid (not_fit (l := [1, 2, 0]) (m := [2, 1]) (by decide))
  go_enter Try.func5, Try.ntmps5
  go_wp2_with fail
  refine (awake18_any _).mono ?_
  rintro e w1 ⟨rfl, ht⟩
  obtain ⟨ra, rb, rp⟩ := two_rows w1 [1, 2] [2, 1] 2 2 rfl rfl (by decide) (by decide) (by simp) (by simp)
  have ra := Lib.hid ra; have rb := Lib.hid rb; have rp := Lib.hid (ht.pure rp)
  obtain ⟨i3, hi, hiz, hisz, hby⟩ := info_parts Try.infoInt
  have hpb : Pure ((w1.alloc (.cells (ints [1, 2]).toArray 3)).alloc (.cells (ints [2, 1]).toArray 3)) (((w1.alloc (.cells (ints [1, 2]).toArray 3)).alloc (.cells (ints [2, 1]).toArray 3)).alloc (.cells (ints [0]).toArray 3)) := (Turn.refl _ _).alloc _
  have ho : ((w1.alloc (.cells (ints [1, 2]).toArray 3)).alloc (.cells (ints [2, 1]).toArray 3)).ownsRow 0 3 1 (.slice (some ⟨w1.heap.size, 0, none⟩) 2 2) 2 (ints [1, 2]) :=
    ⟨rfl, .inr ⟨w1.heap.size, 2, (ints [1, 2]).toArray, rfl, Nat.zero_le _, ((Turn.refl (fun _ => False) _).alloc _).obj (heap_alloc_new _ _) (fun e => e), Nat.le_refl _, by decide, rfl, rfl⟩⟩
  have ho := hpb.own ho (fun _ _ e => e)
  have hs : Src Try.prog 1 22 (.slice (some ⟨((w1.alloc (.cells (ints [1, 2]).toArray 3)).alloc (.cells (ints [2, 1]).toArray 3)).heap.size, 0, none⟩) 1 1) 1 (ints [0]) (((w1.alloc (.cells (ints [1, 2]).toArray 3)).alloc (.cells (ints [2, 1]).toArray 3)).alloc (.cells (ints [0]).toArray 3)) :=
    Src.ofSlice _ Try.underlying22 _ _ _ _ rfl (fun j u hu => by rw [Addr.add_mid, Nat.zero_add, World.cell?_alloc_new]; simpa [ints] using hu) (ints_one _)
  have rb := Lib.hid (rb.out.pure hpb); have rp := Lib.hid (rp.out.pure hpb)
  have HO := Lib.hid ho; clear ho ra hpb
  have esz : ((w1.alloc (.cells (ints [1, 2]).toArray 3)).alloc (.cells (ints [2, 1]).toArray 3)).heap.size = w1.heap.size + 1 + 1 := by simp
  rw [esz] at hs
  have HS := Lib.hid hs; clear hs esz
  go_wp2_with (at_builtin; refine wpList_append_turn _ rfl _ _ 22 22 3 rfl i3 _ 1 8 Try.underlying22 hi hiz hisz hby rfl _ _ _ rfl HO.out _ rfl 1 _ HS.out (by omega) (by omega) ?_)
  intro ao c w2 ho2 ht2 hb2
  rw [← ints_app] at ho2
  have hT : Turn (fun k => k = w1.heap.size) (((w1.alloc (.cells (ints [1, 2]).toArray 3)).alloc (.cells (ints [2, 1]).toArray 3)).alloc (.cells (ints [0]).toArray 3)) w2 := ht2.mono fun k _ e => (Option.some.inj e).symm
  have ra := Lib.hid (ints_own (l := [1, 2, 0]) ho2 (fun i x hx => by have := List.mem_of_getElem? hx; simp at this; omega) (by decide))
  have rb : Hid (Ints w2 (.slice (some ⟨w1.heap.size + 1, 0, none⟩) 2 2) [2, 1]) := Lib.hid (rb.out.far hT (by simp))
  have rp : Hid (Pure w w2) := Lib.hid (rp.out.trans hT fun i hi e => by have := ht.size; omega)
  clear ho2 ht2 hb2 hT HO HS
  go_wp2_with fail
  have ha := ra.out; have hb := rb.out; have hp := rp.out
  have HA := Lib.hid ha; have HB := Lib.hid hb; have HP := Lib.hid hp
  clear ha hb hp
  refine (Below_any _ _ _ _ _ HA.out HB.out).mono ?_
  rintro e w2 ⟨rfl, h2⟩
  rw [HF.out.1]
  have hA := Lib.hid (HA.out.pure h2)
  have hB := Lib.hid (HB.out.pure h2)
  have hP := Lib.hid (HP.out.pure h2)
  clear HA HB HP h2
  go_wp2_with fail
  refine (Join_any _ _ _ _ _ hA.out hB.out).mono ?_
  rintro e w3 ⟨⟨j, rfl, hj⟩, h2⟩
  rw [HF.out.2.1] at hj ⊢
  obtain ⟨ja, jc, rfl, _⟩ := hj
  have hA := Lib.hid (hA.out.pure h2)
  have hB := Lib.hid (hB.out.pure h2)
  have hP := Lib.hid (hP.out.pure h2)
  clear h2
  go_wp2_with fail
  refine (Apart_any _ _ _ _ _ hA.out hB.out).mono ?_
  rintro e w4 ⟨rfl, h2⟩
  rw [HF.out.2.2]
  have hP := Lib.hid (hP.out.pure h2)
  clear hA hB h2
  go_wp2_with (go_at_call 19; refine (Num_any _ _).mono ?_; rintro e w9 ⟨rfl, rfl⟩)
  go_ret
  exact ⟨rfl, hP.out⟩
set_option maxRecDepth 100000 in
set_option maxHeartbeats 2000000 in
theorem VecForms_5 (w : World) (which x : Int) (M : Nat) (hM : bits .and .i64 x 63 = (M : Int)) (hM1 : M < 64) (h0 : ((IntKind.u64.wrap which).tmod 6 == 0) = false) (h1 : ((IntKind.u64.wrap which).tmod 6 == 1) = false) (h2 : ((IntKind.u64.wrap which).tmod 6 == 2) = false) (h3 : ((IntKind.u64.wrap which).tmod 6 == 3) = false) (h4 : ((IntKind.u64.wrap which).tmod 6 == 4) = false) :
    Calls Try.prog 5 #[.int .i64 which, .int .i64 x] w fun e w' => e = .returned (.bool true) ∧ Pure w w' := by
  have HF : Hid _ := Lib.hid (not_fit (l := (List.replicate (17 + M) 0)) (m := (List.replicate (17 + M) 0)) (by simp [fitB, mayB]; omega))
  have hmk : ∀ w0 : World, (Instr.makeSlice 22 (.int .i64 (16 + (1 + (M : Int)))) (.int .i64 (16 + (1 + (M : Int))))).run Try.prog w0 = .ok (.slice (some ⟨w0.heap.size, 0, none⟩) (17 + M) (17 + M)) (w0.alloc (.cells (ints (List.replicate (17 + M) 0)).toArray 3)) := by
    intro w0
    have := make_int w0 (17 + M) (by omega)
    rw [show (16 + (1 + (M : Int))) = ((17 + M : Nat) : Int) by omega]
    exact this
  go_enter Try.func5, Try.ntmps5
  go_wp2_with fail
  refine (awake18_any _).mono ?_
  rintro e w1 ⟨rfl, ht⟩
  have rp : Pure w ((w1.alloc (.cells (ints [1, 2]).toArray 3)).alloc (.cells (ints [2, 1]).toArray 3)) := (ht.alloc _).alloc _
  obtain ⟨rb, rc, rq⟩ := two_rows ((w1.alloc (.cells (ints [1, 2]).toArray 3)).alloc (.cells (ints [2, 1]).toArray 3)) (List.replicate (17 + M) 0) (List.replicate (17 + M) 0) (17 + M) (17 + M) (by simp) (by simp) (by intro x hx; simp at hx; omega) (by intro x hx; simp at hx; omega) (by simp; omega) (by simp; omega)
  have esz : ((w1.alloc (.cells (ints [1, 2]).toArray 3)).alloc (.cells (ints [2, 1]).toArray 3)).heap.size = w1.heap.size + 1 + 1 := by simp
  rw [esz] at rb rc
  have rb := Lib.hid rb; have rc := Lib.hid rc; have rp := Lib.hid (rp.pure rq); clear rq ht esz
  go_wp2_with fail
  have ha := rb.out; have hb := rc.out; have hp := rp.out
  have HA := Lib.hid ha; have HB := Lib.hid hb; have HP := Lib.hid hp
  clear ha hb hp
  refine (Below_any _ _ _ _ _ HA.out HB.out).mono ?_
  rintro e w2 ⟨rfl, h2⟩
  rw [HF.out.1]
  have hA := Lib.hid (HA.out.pure h2)
  have hB := Lib.hid (HB.out.pure h2)
  have hP := Lib.hid (HP.out.pure h2)
  clear HA HB HP h2
  go_wp2_with fail
  refine (Join_any _ _ _ _ _ hA.out hB.out).mono ?_
  rintro e w3 ⟨⟨j, rfl, hj⟩, h2⟩
  rw [HF.out.2.1] at hj ⊢
  obtain ⟨ja, jc, rfl, _⟩ := hj
  have hA := Lib.hid (hA.out.pure h2)
  have hB := Lib.hid (hB.out.pure h2)
  have hP := Lib.hid (hP.out.pure h2)
  clear h2
  go_wp2_with fail
  refine (Apart_any _ _ _ _ _ hA.out hB.out).mono ?_
  rintro e w4 ⟨rfl, h2⟩
  rw [HF.out.2.2]
  have hP := Lib.hid (hP.out.pure h2)
  clear hA hB h2
  go_wp2_with (go_at_call 19; refine (Num_any _ _).mono ?_; rintro e w9 ⟨rfl, rfl⟩)
  go_ret
  exact ⟨rfl, hP.out⟩
set_option maxHeartbeats 2000000 in
theorem VecForms_true (w : World) (which x : Int) :
    Calls Try.prog 5 #[.int .i64 which, .int .i64 x] w fun e w' => e = .returned (.bool true) ∧ Pure w w' := by
  obtain ⟨M, hM, hM1⟩ := i64_and63_nat x
  cases h0 : ((IntKind.u64.wrap which).tmod 6 == 0)
  case true => exact VecForms_0 w which x M hM hM1 h0
  case false =>
    cases h1 : ((IntKind.u64.wrap which).tmod 6 == 1)
    case true => exact VecForms_1 w which x M hM hM1 h0 h1
    case false =>
      cases h2 : ((IntKind.u64.wrap which).tmod 6 == 2)
      case true => exact VecForms_2 w which x M hM hM1 h0 h1 h2
      case false =>
        cases h3 : ((IntKind.u64.wrap which).tmod 6 == 3)
        case true => exact VecForms_3 w which x M hM hM1 h0 h1 h2 h3
        case false =>
          cases h4 : ((IntKind.u64.wrap which).tmod 6 == 4)
          case true => exact VecForms_4 w which x M hM hM1 h0 h1 h2 h3 h4
          case false =>
            exact VecForms_5 w which x M hM hM1 h0 h1 h2 h3 h4
end Go.Proofs.Ytjingpkgappblaa
