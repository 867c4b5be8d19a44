/- The law ProofForms: leaves, sizes that are none. -/
import Derived.Test.YtjbigghjbcjelaaIncls
namespace Go.Proofs.Ytjbigghjbcjelaa
open Go.RowKit

theorem made_str (n : Nat) : madeCells #[Value.string ⟨#[]⟩] n = (strs (List.replicate n [])).toArray := by
  apply Array.toList_inj.1
  simp only [madeCells, strs, Array.toList_map, List.map_replicate]
  apply List.ext_getElem
  · simp
  · intro i h1 h2
    simp [Nat.mod_one, bstr]
theorem make_str (w : World) (n : Nat) (hn : n ≤ 1000) :
    (Instr.makeSlice 22 (.int .i64 n) (.int .i64 n)).run Try.prog w = .ok (.slice (some ⟨w.heap.size, 0, none⟩) n n) (w.alloc (.cells (strs (List.replicate n [])).toArray 9)) := by
  obtain ⟨i, hi, h1, h2, h3⟩ := partsStr
  have := run_make (P := Try.prog) w 22 9 i (.string ⟨#[]⟩) Try.underlying22 hi.out h1 .i64 .i64 n n (by omega) (by omega) (by rw [h3]; omega) (by omega)
  rw [this, h2]
  simp [Value.cells, made_str]
theorem texts_made (w : World) (n : Nat) : Texts (w.alloc (.cells (strs (List.replicate n [])).toArray 9)) (.slice (some ⟨w.heap.size, 0, none⟩) n n) (List.replicate n []) :=
  ⟨_, n, by rw [List.length_replicate], by simp, fun _ => ⟨_, 0, rfl, range_of_row (heap_alloc_new w _)⟩⟩
theorem fits_made (n : Nat) : Fits (List.replicate n []) := fun l hl => by rw [(List.mem_replicate.1 hl).2]; simp
theorem and15 (x : Int) : ∃ H : Nat, H ≤ 15 ∧ bits .and .i64 x 15 = (H : Int) := by
  refine ⟨(BitVec.ofInt 64 x &&& BitVec.ofInt 64 15).toNat, ?_, ?_⟩
  · rw [BitVec.toNat_and]
    exact Nat.le_trans Nat.and_le_right (by decide)
  · have h : (BitVec.ofInt 64 x &&& BitVec.ofInt 64 15).toNat ≤ 15 := by
      rw [BitVec.toNat_and]
      exact Nat.le_trans Nat.and_le_right (by decide)
    show IntKind.i64.wrap (((BitVec.ofInt 64 x &&& BitVec.ofInt 64 15).toNat : Nat) : Int) = _
    exact IntWalk.i64_in _ (by omega)
theorem and63 (x : Int) : ∃ H : Nat, H ≤ 63 ∧ bits .and .i64 x 63 = (H : Int) := by
  refine ⟨(BitVec.ofInt 64 x &&& BitVec.ofInt 64 63).toNat, ?_, ?_⟩
  · rw [BitVec.toNat_and]
    exact Nat.le_trans Nat.and_le_right (by decide)
  · have h : (BitVec.ofInt 64 x &&& BitVec.ofInt 64 63).toNat ≤ 63 := by
      rw [BitVec.toNat_and]
      exact Nat.le_trans Nat.and_le_right (by decide)
    show IntKind.i64.wrap (((BitVec.ofInt 64 x &&& BitVec.ofInt 64 63).toNat : Nat) : Int) = _
    exact IntWalk.i64_in _ (by omega)
theorem hashs_nil (w : World) : Hashs w (.slice none 0 0) [] := ⟨none, 0, rfl, Nat.le_refl _, fun e => absurd rfl e, fun _ h => by simp at h⟩
theorem chkI_in (leaf : List UInt8) (i size : Int) (hs : List (List UInt8)) (root : List UInt8) : (chkI leaf i size hs root == 1000) = !(decide (1 ≤ size ∧ size ≤ 256 ∧ 0 ≤ i ∧ i < size)) := by
  rw [chkI]
  by_cases h : 1 ≤ size ∧ size ≤ 256 ∧ 0 ≤ i ∧ i < size
  · rw [if_pos h, decide_eq_true h, chkV]
    split <;> rfl
  · rw [if_neg h, decide_eq_false h]; rfl
theorem cchkI_in (m : Int) (old : List UInt8) (size : Int) (root : List UInt8) (p : List (List UInt8)) : (cchkI m old size root p == 1000) = !(decide (1 ≤ size ∧ size ≤ 256 ∧ 1 ≤ m ∧ m ≤ size)) := by
  rw [cchkI]
  by_cases h : 1 ≤ size ∧ size ≤ 256 ∧ 1 ≤ m ∧ m ≤ size
  · rw [if_pos h, decide_eq_true h, cchkV]
    split <;> rfl
  · rw [if_neg h, decide_eq_false h]; rfl

set_option maxRecDepth 100000 in
set_option maxHeartbeats 2000000 in
theorem ProofForms_true (w : World) (size i m : Int) (hi : -9223372036854775808 ≤ i ∧ i ≤ 9223372036854775807) (hm : -9223372036854775808 ≤ m ∧ m ≤ 9223372036854775807) :
    Calls Try.prog 11 #[.int .i64 size, .int .i64 i, .int .i64 m] w fun e w' => e = .returned (.bool true) ∧ Pure w w' := by
  obtain ⟨X, hXl, HZ⟩ := ex28
  have hu28 := Try.underlying28
  obtain ⟨k, hk, hand⟩ := and15 size
  have hR : (rootV (List.replicate k [])).length = 32 := rootV_length _
  have hrt := fun W V h => RRoot_texts W V (List.replicate k []) h (fits_made k) (by simp; omega)
  have hin := fun W V h => Inclusion_any W V (List.replicate k []) i h (fits_made k) (by simp; omega) hi
  have hco := fun W V h => Consistency_any W V (List.replicate k []) m h (fits_made k) (by simp; omega) hm
  have hbig := fun W V h => Inclusion_any W V (List.replicate 257 []) 0 h (fits_made 257) (by simp) (by decide)
  rw [show inclE (List.replicate 257 []) 0 = 1000 by rw [inclE, if_neg (by simp)]] at hbig
  generalize hR0 : rootV (List.replicate k []) = R at hR hrt
  have hck := fun W => CheckInclusion_any W [] i k (.slice none 0 0) [] R (by simp) (hashs_nil W) (by simp) hR
  have hcb := fun W => CheckInclusion_any W [] 0 257 (.slice none 0 0) [] R (by simp) (hashs_nil W) (by simp) hR
  rw [show chkI [] 0 257 [] R = 1000 by rw [chkI, if_neg (by decide)]] at hcb
  have hcc := fun W => CheckConsistency_any W m R k R (.slice none 0 0) [] (hashs_nil W) (by simp) hR hR
  have eI : inclE (List.replicate k []) i = if 0 ≤ i ∧ i < (k : Int) then 0 else 1000 := by
    rw [inclE, List.length_replicate]
    by_cases h : 0 ≤ i ∧ i < (k : Int)
    · rw [if_pos (by omega), if_pos h]
    · rw [if_neg (by omega), if_neg h]
  have eC : consE (List.replicate k []) m = if 1 ≤ m ∧ m ≤ (k : Int) then 0 else 1000 := by
    rw [consE, List.length_replicate]
    by_cases h : 1 ≤ m ∧ m ≤ (k : Int)
    · rw [if_pos (by omega), if_pos h]
    · rw [if_neg (by omega), if_neg h]
  have eA := chkI_in [] i k [] R
  have eB := cchkI_in m R k R []
  generalize inclE (List.replicate k []) i = EI at hin eI
  generalize consE (List.replicate k []) m = EC at hco eC
  have HEI := Lib.hid eI; have HEC := Lib.hid eC
  generalize chkI [] i k [] R = A at hck eA
  generalize cchkI m R k R [] = B at hcc eB
  have HRT := Lib.hid hrt; have HIN := Lib.hid hin; have HCO := Lib.hid hco; have HBIG := Lib.hid hbig; have HCK := Lib.hid hck; have HCB := Lib.hid hcb; have HCC := Lib.hid hcc
  have HE := Lib.hid (And.intro eA eB)
  clear hrt hin hco hbig hck hcb hcc eA eB eI eC hR0
  have mk1 := fun W : World => make_str W k (by omega)
  have mk2 := fun W : World => make_str W 257 (by omega)
  change ∀ W : World, (Instr.makeSlice 22 (.int .i64 257) (.int .i64 257)).run Try.prog W = _ at mk2
  obtain ⟨L, hL⟩ : ∃ L, L = List.replicate 257 ([] : List UInt8) := ⟨_, rfl⟩
  rw [← hL] at HBIG
  simp only [← hL] at mk2
  have HT2 : Hid (∀ W : World, Texts (W.alloc (.cells (strs L).toArray 9)) (.slice (some ⟨W.heap.size, 0, none⟩) 257 257) L) := Lib.hid fun W => by rw [hL]; exact texts_made W 257
  clear hL
  go_enter Try.func11, Try.ntmps11
  go_wp2_with fail
  refine (awake10 _).mono ?_
  rintro e w1 ⟨rfl, t1⟩
  have T1 := Lib.hid (texts_made w1 k); have PT := Lib.hid (t1.alloc (.cells (strs (List.replicate k [])).toArray 9))
  have hg1 : w1.heap.size < (w1.alloc (.cells (strs (List.replicate k [])).toArray 9)).heap.size := by simp
  clear t1
  go_wp2_with fail
  generalize w1.alloc (.cells (strs (List.replicate k [])).toArray 9) = wa at *
  generalize w1.heap.size = g1 at *
  refine (HRT.out _ _ T1.out).mono ?_
  rintro e w2 ⟨rfl, t2⟩
  have PT := Lib.hid (PT.out.pure t2); have T1 := Lib.hid (T1.out.pure t2)
  have hg2 : g1 < w2.heap.size := by have := t2.size; omega
  clear t2
  go_wp2_with (refine wpList_allocZ rfl 28 rfl X HZ.out ?_)
  intro g9 w3 e3 c3 t3 s3
  have l9 : w.heap.size ≤ g9 := by have := PT.out.size; omega
  have l19 : g1 < g9 := by omega
  clear e3
  have PT := Lib.hid (PT.out.pure t3); have T1 := Lib.hid (T1.out.pure t3)
  clear t3 s3
  go_wp2_with (refine wpList_store_blk rfl 28 _ _ rfl g9 _ (u8s R) _ rfl rfl c3 (size28 hXl hR) (info28_l hR) (u8s_one _) ?_)
  intro w4 c4 t4 _
  have D9 := Lib.hid c4
  have T1 := Lib.hid (T1.out.turn t4 (fun q hq e => by have : g1 = q := Option.some.inj hq; omega))
  have PT := Lib.hid (PT.out.trans t4 fun q hq e => by omega : Pure w w4)
  clear c3 c4 t4 hg1 hg2
  go_wp2_with fail
  refine (HIN.out _ _ T1.out).mono ?_
  rintro e w5 ⟨r5, rfl, _, _, t5⟩
  have PT := Lib.hid (PT.out.pure t5); have D9 := Lib.hid (t5.obj D9.out (fun e => e)); have T1 := Lib.hid (T1.out.pure t5)
  clear t5
  go_wp2_with (refine wpList_load_row rfl 28 _ rfl g9 rfl _ (u8s R).toArray _ _ D9.out hu28 rfl (info28_a hR) ?_)
  refine (HCK.out _).mono ?_
  rintro e w6 ⟨rfl, t6⟩
  have PT := Lib.hid (PT.out.pure t6); have D9 := Lib.hid (t6.obj D9.out (fun e => e)); have T1 := Lib.hid (T1.out.pure t6)
  clear t6
  go_wp2_with fail
  refine (HCO.out _ _ T1.out).mono ?_
  rintro e w7 ⟨r7, rfl, _, _, t7⟩
  have PT := Lib.hid (PT.out.pure t7); have D9 := Lib.hid (t7.obj D9.out (fun e => e)); have T1 := Lib.hid (T1.out.pure t7)
  clear t7
  go_wp2_with (refine wpList_load_row rfl 28 _ rfl g9 rfl _ (u8s R).toArray _ _ D9.out hu28 rfl (info28_a hR) ?_)
  refine (HCC.out _).mono ?_
  rintro e w8 ⟨rfl, t8⟩
  have PT := Lib.hid (PT.out.pure t8); have D9 := Lib.hid (t8.obj D9.out (fun e => e))
  clear t8
  have T2 := Lib.hid (HT2.out w8); have PT := Lib.hid (PT.out.alloc (.cells (strs L).toArray 9))
  have D9 := Lib.hid (((Turn.refl (fun _ => False) w8).alloc (.cells (strs L).toArray 9)).obj D9.out (fun e => e))
  go_wp2_with fail
  generalize w8.alloc (.cells (strs L).toArray 9) = wb at *
  generalize w8.heap.size = g8 at *
  refine (HBIG.out _ _ T2.out).mono ?_
  rintro e wc ⟨r9, rfl, _, _, tc⟩
  have PT := Lib.hid (PT.out.pure tc); have D9 := Lib.hid (tc.obj D9.out (fun e => e))
  clear tc T1 T2
  go_wp2_with (refine wpList_load_row rfl 28 _ rfl g9 rfl _ (u8s R).toArray _ _ D9.out hu28 rfl (info28_a hR) ?_)
  refine (HCB.out _).mono ?_
  rintro e wd ⟨rfl, td⟩
  have PT := Lib.hid (PT.out.pure td); have D9 := Lib.hid (td.obj D9.out (fun e => e))
  clear td
  clear HRT HIN HCO HBIG HCK HCB HCC mk1 mk2 D9 hand
  by_cases a1 : 0 ≤ i
  · have d1 : decide (0 ≤ i) = true := decide_eq_true a1
    by_cases a2 : i < (k : Int)
    · have d2 : decide (i < (k : Int)) = true := decide_eq_true a2
      by_cases b1 : 1 ≤ m
      · have d3 : decide (1 ≤ m) = true := decide_eq_true b1
        by_cases b2 : m ≤ (k : Int)
        · have d4 : decide (m ≤ (k : Int)) = true := decide_eq_true b2
          have eA : (A == 1000) = false := by rw [HE.out.1]; simp; omega
          have eB : (B == 1000) = false := by rw [HE.out.2]; simp; omega
          have nI : EI = 0 := by rw [HEI.out, if_pos (by omega)]
          have nC : EC = 0 := by rw [HEC.out, if_pos (by omega)]
          clear HEI HEC
          subst nI nC
          go_wp2_with fail
          refine (Num9_any _ 0).mono ?_
          rintro e wn ⟨rfl, rfl⟩
          go_wp2_with fail
          refine (Num9_any _ A).mono ?_
          rintro e wn ⟨rfl, rfl⟩
          go_wp2_with fail
          refine (Num9_any _ 0).mono ?_
          rintro e wn ⟨rfl, rfl⟩
          go_wp2_with fail
          refine (Num9_any _ B).mono ?_
          rintro e wn ⟨rfl, rfl⟩
          go_wp2_with fail
          refine (Num9_any _ 1000).mono ?_
          rintro e wn ⟨rfl, rfl⟩
          go_wp2_with fail
          refine (Num9_any _ 1000).mono ?_
          rintro e wn ⟨rfl, rfl⟩
          go_wp2
          go_ret
          exact ⟨rfl, PT.out⟩
        · have d4 : decide (m ≤ (k : Int)) = false := decide_eq_false b2
          have eA : (A == 1000) = false := by rw [HE.out.1]; simp; omega
          have eB : (B == 1000) = true := by rw [HE.out.2]; simp; omega
          have nI : EI = 0 := by rw [HEI.out, if_pos (by omega)]
          have nC : EC = 1000 := by rw [HEC.out, if_neg (by omega)]
          clear HEI HEC
          subst nI nC
          go_wp2_with fail
          refine (Num9_any _ 0).mono ?_
          rintro e wn ⟨rfl, rfl⟩
          go_wp2_with fail
          refine (Num9_any _ A).mono ?_
          rintro e wn ⟨rfl, rfl⟩
          go_wp2_with fail
          refine (Num9_any _ 1000).mono ?_
          rintro e wn ⟨rfl, rfl⟩
          go_wp2_with fail
          refine (Num9_any _ B).mono ?_
          rintro e wn ⟨rfl, rfl⟩
          go_wp2_with fail
          refine (Num9_any _ 1000).mono ?_
          rintro e wn ⟨rfl, rfl⟩
          go_wp2_with fail
          refine (Num9_any _ 1000).mono ?_
          rintro e wn ⟨rfl, rfl⟩
          go_wp2
          go_ret
          exact ⟨rfl, PT.out⟩
      · have d3 : decide (1 ≤ m) = false := decide_eq_false b1
        have eA : (A == 1000) = false := by rw [HE.out.1]; simp; omega
        have eB : (B == 1000) = true := by rw [HE.out.2]; simp; omega
        have nI : EI = 0 := by rw [HEI.out, if_pos (by omega)]
        have nC : EC = 1000 := by rw [HEC.out, if_neg (by omega)]
        clear HEI HEC
        subst nI nC
        go_wp2_with fail
        refine (Num9_any _ 0).mono ?_
        rintro e wn ⟨rfl, rfl⟩
        go_wp2_with fail
        refine (Num9_any _ A).mono ?_
        rintro e wn ⟨rfl, rfl⟩
        go_wp2_with fail
        refine (Num9_any _ 1000).mono ?_
        rintro e wn ⟨rfl, rfl⟩
        go_wp2_with fail
        refine (Num9_any _ B).mono ?_
        rintro e wn ⟨rfl, rfl⟩
        go_wp2_with fail
        refine (Num9_any _ 1000).mono ?_
        rintro e wn ⟨rfl, rfl⟩
        go_wp2_with fail
        refine (Num9_any _ 1000).mono ?_
        rintro e wn ⟨rfl, rfl⟩
        go_wp2
        go_ret
        exact ⟨rfl, PT.out⟩
    · have d2 : decide (i < (k : Int)) = false := decide_eq_false a2
      by_cases b1 : 1 ≤ m
      · have d3 : decide (1 ≤ m) = true := decide_eq_true b1
        by_cases b2 : m ≤ (k : Int)
        · have d4 : decide (m ≤ (k : Int)) = true := decide_eq_true b2
          have eA : (A == 1000) = true := by rw [HE.out.1]; simp; omega
          have eB : (B == 1000) = false := by rw [HE.out.2]; simp; omega
          have nI : EI = 1000 := by rw [HEI.out, if_neg (by omega)]
          have nC : EC = 0 := by rw [HEC.out, if_pos (by omega)]
          clear HEI HEC
          subst nI nC
          go_wp2_with fail
          refine (Num9_any _ 1000).mono ?_
          rintro e wn ⟨rfl, rfl⟩
          go_wp2_with fail
          refine (Num9_any _ A).mono ?_
          rintro e wn ⟨rfl, rfl⟩
          go_wp2_with fail
          refine (Num9_any _ 0).mono ?_
          rintro e wn ⟨rfl, rfl⟩
          go_wp2_with fail
          refine (Num9_any _ B).mono ?_
          rintro e wn ⟨rfl, rfl⟩
          go_wp2_with fail
          refine (Num9_any _ 1000).mono ?_
          rintro e wn ⟨rfl, rfl⟩
          go_wp2_with fail
          refine (Num9_any _ 1000).mono ?_
          rintro e wn ⟨rfl, rfl⟩
          go_wp2
          go_ret
          exact ⟨rfl, PT.out⟩
        · have d4 : decide (m ≤ (k : Int)) = false := decide_eq_false b2
          have eA : (A == 1000) = true := by rw [HE.out.1]; simp; omega
          have eB : (B == 1000) = true := by rw [HE.out.2]; simp; omega
          have nI : EI = 1000 := by rw [HEI.out, if_neg (by omega)]
          have nC : EC = 1000 := by rw [HEC.out, if_neg (by omega)]
          clear HEI HEC
          subst nI nC
          go_wp2_with fail
          refine (Num9_any _ 1000).mono ?_
          rintro e wn ⟨rfl, rfl⟩
          go_wp2_with fail
          refine (Num9_any _ A).mono ?_
          rintro e wn ⟨rfl, rfl⟩
          go_wp2_with fail
          refine (Num9_any _ 1000).mono ?_
          rintro e wn ⟨rfl, rfl⟩
          go_wp2_with fail
          refine (Num9_any _ B).mono ?_
          rintro e wn ⟨rfl, rfl⟩
          go_wp2_with fail
          refine (Num9_any _ 1000).mono ?_
          rintro e wn ⟨rfl, rfl⟩
          go_wp2_with fail
          refine (Num9_any _ 1000).mono ?_
          rintro e wn ⟨rfl, rfl⟩
          go_wp2
          go_ret
          exact ⟨rfl, PT.out⟩
      · have d3 : decide (1 ≤ m) = false := decide_eq_false b1
        have eA : (A == 1000) = true := by rw [HE.out.1]; simp; omega
        have eB : (B == 1000) = true := by rw [HE.out.2]; simp; omega
        have nI : EI = 1000 := by rw [HEI.out, if_neg (by omega)]
        have nC : EC = 1000 := by rw [HEC.out, if_neg (by omega)]
        clear HEI HEC
        subst nI nC
        go_wp2_with fail
        refine (Num9_any _ 1000).mono ?_
        rintro e wn ⟨rfl, rfl⟩
        go_wp2_with fail
        refine (Num9_any _ A).mono ?_
        rintro e wn ⟨rfl, rfl⟩
        go_wp2_with fail
        refine (Num9_any _ 1000).mono ?_
        rintro e wn ⟨rfl, rfl⟩
        go_wp2_with fail
        refine (Num9_any _ B).mono ?_
        rintro e wn ⟨rfl, rfl⟩
        go_wp2_with fail
        refine (Num9_any _ 1000).mono ?_
        rintro e wn ⟨rfl, rfl⟩
        go_wp2_with fail
        refine (Num9_any _ 1000).mono ?_
        rintro e wn ⟨rfl, rfl⟩
        go_wp2
        go_ret
        exact ⟨rfl, PT.out⟩
  · have d1 : decide (0 ≤ i) = false := decide_eq_false a1
    by_cases b1 : 1 ≤ m
    · have d3 : decide (1 ≤ m) = true := decide_eq_true b1
      by_cases b2 : m ≤ (k : Int)
      · have d4 : decide (m ≤ (k : Int)) = true := decide_eq_true b2
        have eA : (A == 1000) = true := by rw [HE.out.1]; simp; omega
        have eB : (B == 1000) = false := by rw [HE.out.2]; simp; omega
        have nI : EI = 1000 := by rw [HEI.out, if_neg (by omega)]
        have nC : EC = 0 := by rw [HEC.out, if_pos (by omega)]
        clear HEI HEC
        subst nI nC
        go_wp2_with fail
        refine (Num9_any _ 1000).mono ?_
        rintro e wn ⟨rfl, rfl⟩
        go_wp2_with fail
        refine (Num9_any _ A).mono ?_
        rintro e wn ⟨rfl, rfl⟩
        go_wp2_with fail
        refine (Num9_any _ 0).mono ?_
        rintro e wn ⟨rfl, rfl⟩
        go_wp2_with fail
        refine (Num9_any _ B).mono ?_
        rintro e wn ⟨rfl, rfl⟩
        go_wp2_with fail
        refine (Num9_any _ 1000).mono ?_
        rintro e wn ⟨rfl, rfl⟩
        go_wp2_with fail
        refine (Num9_any _ 1000).mono ?_
        rintro e wn ⟨rfl, rfl⟩
        go_wp2
        go_ret
        exact ⟨rfl, PT.out⟩
      · have d4 : decide (m ≤ (k : Int)) = false := decide_eq_false b2
        have eA : (A == 1000) = true := by rw [HE.out.1]; simp; omega
        have eB : (B == 1000) = true := by rw [HE.out.2]; simp; omega
        have nI : EI = 1000 := by rw [HEI.out, if_neg (by omega)]
        have nC : EC = 1000 := by rw [HEC.out, if_neg (by omega)]
        clear HEI HEC
        subst nI nC
        go_wp2_with fail
        refine (Num9_any _ 1000).mono ?_
        rintro e wn ⟨rfl, rfl⟩
        go_wp2_with fail
        refine (Num9_any _ A).mono ?_
        rintro e wn ⟨rfl, rfl⟩
        go_wp2_with fail
        refine (Num9_any _ 1000).mono ?_
        rintro e wn ⟨rfl, rfl⟩
        go_wp2_with fail
        refine (Num9_any _ B).mono ?_
        rintro e wn ⟨rfl, rfl⟩
        go_wp2_with fail
        refine (Num9_any _ 1000).mono ?_
        rintro e wn ⟨rfl, rfl⟩
        go_wp2_with fail
        refine (Num9_any _ 1000).mono ?_
        rintro e wn ⟨rfl, rfl⟩
        go_wp2
        go_ret
        exact ⟨rfl, PT.out⟩
    · have d3 : decide (1 ≤ m) = false := decide_eq_false b1
      have eA : (A == 1000) = true := by rw [HE.out.1]; simp; omega
      have eB : (B == 1000) = true := by rw [HE.out.2]; simp; omega
      have nI : EI = 1000 := by rw [HEI.out, if_neg (by omega)]
      have nC : EC = 1000 := by rw [HEC.out, if_neg (by omega)]
      clear HEI HEC
      subst nI nC
      go_wp2_with fail
      refine (Num9_any _ 1000).mono ?_
      rintro e wn ⟨rfl, rfl⟩
      go_wp2_with fail
      refine (Num9_any _ A).mono ?_
      rintro e wn ⟨rfl, rfl⟩
      go_wp2_with fail
      refine (Num9_any _ 1000).mono ?_
      rintro e wn ⟨rfl, rfl⟩
      go_wp2_with fail
      refine (Num9_any _ B).mono ?_
      rintro e wn ⟨rfl, rfl⟩
      go_wp2_with fail
      refine (Num9_any _ 1000).mono ?_
      rintro e wn ⟨rfl, rfl⟩
      go_wp2_with fail
      refine (Num9_any _ 1000).mono ?_
      rintro e wn ⟨rfl, rfl⟩
      go_wp2
      go_ret
      exact ⟨rfl, PT.out⟩
end Go.Proofs.Ytjbigghjbcjelaa
