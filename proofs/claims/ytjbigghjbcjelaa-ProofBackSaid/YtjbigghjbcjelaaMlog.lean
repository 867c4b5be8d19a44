/- Package mlog and the reference's chapter 9: leaves, joins, cuts, roots. -/
import Derived.Test.YtjbigghjbcjelaaShaM
import Derived.Test.YtjbigghjbcjelaaSeq
namespace Go.Proofs.Ytjbigghjbcjelaa
open Go.RowKit

theorem zero28 : (Try.prog.info? 28).bind (·.zero) = some (.agg (u8s (List.replicate 32 0)).toArray) := by kernel_rfl
theorem info28 : (Try.prog.info? 28).map (·.size) = some 32 := by kernel_rfl
theorem ex28 : ∃ X : List Value, X.length = 32 ∧ Hid ((Try.prog.info? 28).bind (·.zero) = some (.agg X.toArray)) := ⟨_, rfl, Lib.hid zero28⟩
theorem info28_l {l : List UInt8} (h : l.length = 32) : (Try.prog.info? 28).map (·.size) = some (u8s l).length := by rw [u8s_length, h]; exact info28
theorem info28_a {l : List UInt8} (h : l.length = 32) : (Try.prog.info? 28).map (·.size) = some (u8s l).toArray.size := by rw [List.size_toArray]; exact info28_l h
theorem size28 {X : List Value} {l : List UInt8} (hX : X.length = 32) (h : l.length = 32) : X.toArray.size = (u8s l).length := by rw [List.size_toArray, hX, u8s_length, h]

theorem Turn.range {S : Nat → Prop} {w w' : World} (h : Turn S w w') {b o : Nat} {cs : List Value} (hr : w.rangeAt b o cs) (hn : ¬ S b) : w'.rangeAt b o cs := fun j v hj => h.cell (hr j v hj) hn
theorem Turn.there {S : Nat → Prop} {w w' : World} (h : Turn S w w') {b o n : Nat} (ht : w.there b o n) (hn : ¬ S b) : w'.there b o n := fun j hj => by
  obtain ⟨h1, h2⟩ := ht j hj
  obtain ⟨v, hv⟩ := Option.isSome_iff_exists.1 h1
  have hb : b < w.heap.size := World.block_lt_of_cell? w _ hv
  exact ⟨by rw [h.cell hv hn]; rfl, by rw [World.frozen?_of_block (h.block b hb hn)]; exact h2⟩
theorem there_row {w : World} {g n : Nat} {X : List Value} {T : TypeId} (h : w.heap[g]? = some (.cells X.toArray T (0, 0))) (hX : X.length = n) : w.there g 0 n := fun j hj => by
  rw [Nat.zero_add, cell_of_row w g j _ _ _ h, frozen_of_row w g j _ _ h]
  exact ⟨by simp; omega, rfl⟩

def leafV (s : List UInt8) : List UInt8 := shaV (0 :: s)
def joinV (a b : List UInt8) : List UInt8 := shaV (1 :: (a ++ b))
theorem leafV_length (s : List UInt8) : (leafV s).length = 32 := shaV_length _
theorem joinV_length (a b : List UInt8) : (joinV a b).length = 32 := shaV_length _
theorem cons0 (s : List UInt8) : (⟨#[0]⟩ : ByteArray) ++ bstr s = bstr (0 :: s) := bstr_app [0] s
theorem cons1 (s : List UInt8) : (⟨#[1]⟩ : ByteArray) ++ bstr s = bstr (1 :: s) := bstr_app [1] s

set_option maxHeartbeats 400000 in
theorem T_any (w : World) (l : List UInt8) (hl : l.length = 32) :
    Calls Try.prog 24 #[hv l] w fun e w' => e = .returned (.string (bstr l)) ∧ Pure w w' := by
  have hcv := conv_block (P := Try.prog) (w.alloc (.cells (u8s l).toArray 28)) 68 5 9 28 (0, 0) Try.underlying68 Try.underlying5 Try.underlying9 w.heap.size 32 l 32 hl (heap_alloc_new _ _)
  go_enter Try.func24, Try.ntmps24
  go_wp2
  go_ret
  exact ⟨rfl, (Turn.refl _ w).alloc _⟩

set_option maxHeartbeats 400000 in
theorem Leaf_any (w : World) (s : List UInt8) (hs : s.length ≤ 140737488351232) :
    Calls Try.prog 19 #[.string (bstr s)] w fun e w' => e = .returned (hv (leafV s)) ∧ Pure w w' := by
  have hz := bstr_size s
  have hc0 := cons0 s
  have hb : ¬ (9223372036854775807 < 1 + s.length) := by omega
  have hb2 : ¬ (9223372036854775807 < s.length + 1) := by omega
  obtain ⟨X, hXl, HZ⟩ := ex28
  have hll : (0 :: s).length ≤ 140737488355328 := by simp; omega
  go_enter Try.func19, Try.ntmps19
  go_wp2_with (refine wpList_allocZ rfl 28 rfl X HZ.out ?_)
  intro g0 w1 e0 c0 t0 s0
  have l0 : w.heap.size ≤ g0 := by omega
  clear e0 s0
  have C0 := Lib.hid c0; have P1 := Lib.hid t0; clear c0 t0
  go_wp2_with fail
  refine (Sum_any _ (0 :: s) hll).mono ?_
  rintro e w2 ⟨rfl, t2⟩
  have C2 := Lib.hid (t2.obj C0.out (fun e => e))
  have P2 := Lib.hid (P1.out.pure t2)
  clear C0 P1 t2 hll
  rw [show shaV (0 :: s) = leafV s from rfl]
  go_wp2_with (refine wpList_store_blk rfl 28 _ _ rfl g0 _ (u8s (leafV s)) _ rfl rfl C2.out (size28 hXl (leafV_length s)) (info28_l (leafV_length s)) (u8s_one _) ?_)
  intro w9 c9 t9 _
  have hc9 := Lib.hid c9; clear c9
  have HT9 := Lib.hid (P2.out.trans t9 fun i hi e => by omega)
  clear t9
  go_wp2
  exact bodyPost_ret (v := hv (leafV s)) (results_cell_row Try.results19 _ _ g0 _ (u8s (leafV s)).toArray _ _ rfl hc9.out Try.underlying28 rfl (info28_a (leafV_length s))) rfl ⟨rfl, HT9.out⟩
set_option maxHeartbeats 400000 in
theorem RLeaf_any (w : World) (s : List UInt8) (hs : s.length ≤ 140737488351232) :
    Calls Try.prog 20 #[.string (bstr s)] w fun e w' => e = .returned (hv (leafV s)) ∧ Pure w w' := by
  have hz := bstr_size s
  have hc0 := cons0 s
  have hb : ¬ (9223372036854775807 < 1 + s.length) := by omega
  have hb2 : ¬ (9223372036854775807 < s.length + 1) := by omega
  obtain ⟨X, hXl, HZ⟩ := ex28
  have hll2 : (0 :: s).length ≤ 281474976710656 := by simp; omega
  have hll : (0 :: s).length ≤ 140737488355328 := by simp; omega
  go_enter Try.func20, Try.ntmps20
  go_wp2_with (refine wpList_allocZ rfl 28 rfl X HZ.out ?_)
  intro g0 w1 e0 c0 t0 s0
  have l0 : w.heap.size ≤ g0 := by omega
  clear e0 s0
  have C0 := Lib.hid c0; have P1 := Lib.hid t0; clear c0 t0
  go_wp2_with fail
  refine (Sha_any _ (0 :: s) hll2).mono ?_
  rintro e w2 ⟨rfl, t2⟩
  have C2 := Lib.hid (t2.obj C0.out (fun e => e))
  have P2 := Lib.hid (P1.out.pure t2)
  clear C0 P1 t2 hll hll2
  rw [show shaV (0 :: s) = leafV s from rfl]
  go_wp2_with (refine wpList_store_blk rfl 28 _ _ rfl g0 _ (u8s (leafV s)) _ rfl rfl C2.out (size28 hXl (leafV_length s)) (info28_l (leafV_length s)) (u8s_one _) ?_)
  intro w9 c9 t9 _
  have hc9 := Lib.hid c9; clear c9
  have HT9 := Lib.hid (P2.out.trans t9 fun i hi e => by omega)
  clear t9
  go_wp2
  exact bodyPost_ret (v := hv (leafV s)) (results_cell_row Try.results20 _ _ g0 _ (u8s (leafV s)).toArray _ _ rfl hc9.out Try.underlying28 rfl (info28_a (leafV_length s))) rfl ⟨rfl, HT9.out⟩

set_option maxHeartbeats 1000000 in
theorem Join_any (w : World) (a b : List UInt8) (ha : a.length = 32) (hb : b.length = 32) :
    Calls Try.prog 39 #[hv a, hv b] w fun e w' => e = .returned (hv (joinV a b)) ∧ Pure w w' := by
  obtain ⟨X, hXl, HZ⟩ := ex28
  have hll : (1 :: (a ++ b)).length ≤ 140737488355328 := by simp [ha, hb]
  go_enter Try.func39, Try.ntmps39
  go_wp2_with (refine wpList_boxV rfl 28 _ rfl (u8s a) rfl ?_)
  intro g1 w1 e1 c1 t1 s1
  have l1 : w.heap.size ≤ g1 := by omega
  clear e1
  go_wp2_with (refine wpList_boxV rfl 28 _ rfl (u8s b) rfl ?_)
  intro g2 w2 e2 c2 t2 s2
  have l2 : g1 < g2 := by omega
  clear e2
  go_wp2_with (refine wpList_allocZ rfl 28 rfl X HZ.out ?_)
  intro g3 w3 e3 c3 t3 s3
  have l3 : g2 < g3 := by omega
  clear e3
  have C3 := Lib.hid c3
  have P3 := Lib.hid ((t1.pure t2).pure t3)
  have hcv1 := conv_block (P := Try.prog) w3.drew 68 5 9 28 (0, 0) Try.underlying68 Try.underlying5 Try.underlying9 g1 32 a 32 ha (t3.obj (t2.obj c1 (fun e => e)) (fun e => e))
  have hcv2 := conv_block (P := Try.prog) w3.drew 68 5 9 28 (0, 0) Try.underlying68 Try.underlying5 Try.underlying9 g2 32 b 32 hb (t3.obj c2 (fun e => e))
  clear c1 c2 c3 t1 t2 t3 s1 s2 s3
  have hza := bstr_size a
  rw [ha] at hza
  have hzb := bstr_size b
  rw [hb] at hzb
  have ha1 := cons1 a
  have hza1 : (bstr (1 :: a)).size = 33 := by rw [bstr_size]; simp [ha]
  have ha2 : bstr (1 :: a) ++ bstr b = bstr (1 :: (a ++ b)) := bstr_app (1 :: a) b
  go_wp2_with fail
  refine wp_region_still_tail 6 (by kernel_rfl) (by kernel_rfl) ?_
  simp only [List.take_succ_cons, List.take_zero, List.drop_succ_cons, List.drop_zero]
  repeat still_step
  refine wpStill_nil ?_
  have C4 := Lib.hid (show w3.drew.heap[g3]? = _ from C3.out)
  have P4 := Lib.hid (P3.out.drew)
  change wpList _ _ _ _ _ w3.drew
  generalize w3.drew = w4 at *
  clear hcv1 hcv2 C3 P3
  go_wp2_with fail
  refine (Sum_any _ _ hll).mono ?_
  rintro e w5 ⟨rfl, t5⟩
  have C5 := Lib.hid (t5.obj C4.out (fun e => e))
  have P5 := Lib.hid (P4.out.pure t5)
  clear C4 P4 t5 hll
  rw [show shaV (1 :: (a ++ b)) = joinV a b from rfl]
  go_wp2_with (refine wpList_store_blk rfl 28 _ _ rfl g3 _ (u8s (joinV a b)) _ rfl rfl C5.out (size28 hXl (joinV_length a b)) (info28_l (joinV_length a b)) (u8s_one _) ?_)
  intro w9 c9 t9 _
  have hc9 := Lib.hid c9; clear c9
  have HT9 := Lib.hid (P5.out.trans t9 fun i hi e => by omega)
  clear t9
  go_wp2
  exact bodyPost_ret (v := hv (joinV a b)) (results_cell_row Try.results39 _ _ g3 _ (u8s (joinV a b)).toArray _ _ rfl hc9.out Try.underlying28 rfl (info28_a (joinV_length a b))) rfl ⟨rfl, HT9.out⟩

set_option maxHeartbeats 1000000 in
theorem over_any (w : World) (a b : List UInt8) (ha : a.length = 32) (hb : b.length = 32) :
    Calls Try.prog 41 #[hv a, hv b] w fun e w' => e = .returned (hv (joinV a b)) ∧ Pure w w' := by
  obtain ⟨X, hXl, HZ⟩ := ex28
  have hll : (1 :: (a ++ b)).length ≤ 281474976710656 := by simp [ha, hb]
  go_enter Try.func41, Try.ntmps41
  go_wp2_with (refine wpList_boxV rfl 28 _ rfl (u8s a) rfl ?_)
  intro g1 w1 e1 c1 t1 s1
  have l1 : w.heap.size ≤ g1 := by omega
  clear e1
  go_wp2_with (refine wpList_boxV rfl 28 _ rfl (u8s b) rfl ?_)
  intro g2 w2 e2 c2 t2 s2
  have l2 : g1 < g2 := by omega
  clear e2
  go_wp2_with (refine wpList_allocZ rfl 28 rfl X HZ.out ?_)
  intro g3 w3 e3 c3 t3 s3
  have l3 : g2 < g3 := by omega
  clear e3
  have P3 := Lib.hid ((t1.pure t2).pure t3)
  have hS : w3.rangeAt g1 0 (u8s a) ∧ w3.rangeAt g2 0 (u8s b) ∧ w3.there g3 0 32 := ⟨range_of_row (t3.obj (t2.obj c1 (fun e => e)) (fun e => e)), range_of_row (t3.obj c2 (fun e => e)), there_row c3 hXl⟩
  clear c1 c2 t1 t2 t3 s1 s2 s3
  have C3 := Lib.hid c3; clear c3
  have hza := bstr_size a
  rw [ha] at hza
  have hzb := bstr_size b
  rw [hb] at hzb
  have ha1 := cons1 a
  have hza1 : (bstr (1 :: a)).size = 33 := by rw [bstr_size]; simp [ha]
  have ha2 : bstr (1 :: a) ++ bstr b = bstr (1 :: (a ++ b)) := bstr_app (1 :: a) b
  have hu := Try.underlying28
  have hla : (u8s a).length = 32 := by rw [u8s_length, ha]
  have hlb : (u8s b).length = 32 := by rw [u8s_length, hb]
  have hlj : (u8s (joinV a b)).length = 32 := by rw [u8s_length, joinV_length]
  have hia := info28_l ha
  have hib := info28_l hb
  have hij := info28_l (joinV_length a b)
  have hij2 := info28_a (joinV_length a b)
  have h1j := u8s_one (joinV a b)
  have hi32 := info28
  go_wp2_with fail
  refine wp_region_held_drew (S := fun w' => w'.rangeAt g1 0 (u8s a) ∧ w'.rangeAt g2 0 (u8s b)) (by kernel_rfl) ⟨hS.1, hS.2.1⟩ (fun hHeld => ?_)
  refine wpAnyH_take (i := 0) (v := hv a) rfl (by kernel_rfl) (by kernel_rfl) (by kernel_rfl) (fun _ _ _ h => h) (yieldsIf_load_mid (by rfl) 28 _ rfl g1 0 rfl (u8s a) _ (fun w h => h.1) hu rfl hia) hHeld ?_
  simp only [Act.put, List.setIfInBounds_toArray]
  refine wpAnyH_take (i := 3) (v := hv b) rfl (by kernel_rfl) (by kernel_rfl) (by kernel_rfl) (fun _ _ _ h => h) (yieldsIf_load_mid (by rfl) 28 _ rfl g2 0 rfl (u8s b) _ (fun w h => h.2) hu rfl hib) hHeld ?_
  simp only [Act.put]
  clear hS
  have C4 := Lib.hid (show w3.drew.heap[g3]? = _ from C3.out)
  have P4 := Lib.hid (P3.out.drew)
  generalize w3.drew = w4 at *
  have HH := Lib.hid hHeld
  clear hHeld C3 P3
  refine wpAnyH_step (i := 1) (by kernel_rfl) rfl fun K hK => ?_
  go_simp
  refine (T_any _ a ha).mono ?_
  rintro e w5 ⟨rfl, ht⟩
  have C5 := Lib.hid (ht.obj C4.out (fun e => e))
  have P5 := Lib.hid (P4.out.pure ht)
  have HH5 := Lib.hid (And.intro (ht.range HH.out.1 (fun e => e)) (ht.range HH.out.2 (fun e => e)))
  refine hK.out _ _ HH5.out ?_
  clear hK K ht HH C4 P4
  refine wpAnyH_take (i := 2) (v := .string (bstr (1 :: a))) rfl (by kernel_rfl) (by kernel_rfl) (by kernel_rfl) (fun _ _ _ h => h) (Or.inl ⟨by rfl, fun w _ => by go_simp⟩) HH5.out ?_
  simp only [Act.put, List.setIfInBounds_toArray]
  refine wpAnyH_seq [4, 5, 6, 7] _ _ _ _ (by kernel_rfl) (by simp) ?_
  simp only [List.filterMap_cons, List.filterMap_nil, List.getElem?_toArray, List.getElem?_cons_zero, List.getElem?_cons_succ]
  refine wpSeqH_step fun K hK => ?_
  go_simp
  refine (T_any _ b hb).mono ?_
  rintro e w6 ⟨rfl, ht⟩
  have C6 := Lib.hid (ht.obj C5.out (fun e => e))
  have P6 := Lib.hid (P5.out.pure ht)
  have HH6 := Lib.hid (And.intro (ht.range HH5.out.1 (fun e => e)) (ht.range HH5.out.2 (fun e => e)))
  refine hK.out _ _ HH6.out ?_
  clear hK K ht HH5 C5 P5
  refine wpSeqH_step fun K hK => ?_
  go_simp
  refine hK.out _ _ HH6.out ?_
  clear hK K
  refine wpSeqH_step fun K hK => ?_
  go_simp
  refine (Sha_any _ _ hll).mono ?_
  rintro e w7 ⟨rfl, ht⟩
  have C7 := Lib.hid (ht.obj C6.out (fun e => e))
  have P7 := Lib.hid (P6.out.pure ht)
  have HH7 := Lib.hid (And.intro (ht.range HH6.out.1 (fun e => e)) (ht.range HH6.out.2 (fun e => e)))
  refine hK.out _ _ HH7.out ?_
  clear hK K ht HH6 C6 P6
  rw [show shaV (1 :: (a ++ b)) = joinV a b from rfl]
  refine wpSeqH_store_blk rfl 28 _ _ rfl g3 _ (u8s (joinV a b)) _ rfl rfl C7.out (size28 hXl (joinV_length a b)) hij h1j ?_
  intro w9 c9 t9 _
  refine ⟨⟨t9.range HH7.out.1 (by omega), t9.range HH7.out.2 (by omega)⟩, wpSeqH_nil ?_⟩
  have hc9 := Lib.hid c9; clear c9
  have HT9 := Lib.hid (P7.out.trans t9 fun i hi e => by omega)
  clear t9 HH7 C7 P7
  go_wp2
  exact bodyPost_ret (v := hv (joinV a b)) (results_cell_row Try.results41 _ _ g3 _ (u8s (joinV a b)).toArray _ _ rfl hc9.out Try.underlying28 rfl (info28_a (joinV_length a b))) rfl ⟨rfl, HT9.out⟩

/-! The greatest power of two below a number. -/
def belowV (n : Nat) : Nat := 2 ^ (n - 1).log2
theorem belowV_lt {n : Nat} (h : 2 ≤ n) : belowV n < n := by
  have := Nat.log2_self_le (n := n - 1) (by omega)
  rw [belowV]; omega
theorem belowV_pos (n : Nat) : 0 < belowV n := Nat.two_pow_pos _
theorem belowV_ge {n : Nat} (h : 2 ≤ n) : n ≤ 2 * belowV n := by
  have := @Nat.lt_log2_self (n - 1)
  rw [belowV, ← Nat.pow_succ']; omega
theorem belowV_unique {n j : Nat} (h1 : 2 ^ j < n) (h2 : n ≤ 2 * 2 ^ j) : 2 ^ j = belowV n := by
  rw [belowV, (Nat.log2_eq_iff (n := n - 1) (k := j) (by omega)).2 ⟨by omega, by rw [Nat.pow_succ]; omega⟩]

set_option maxHeartbeats 400000 in
theorem Below_any (w : World) (n : Nat) (h2 : 2 ≤ n) (hn : n ≤ 4611686018427387904) :
    Calls Try.prog 43 #[.int .i64 (n : Int)] w fun e w' => e = .returned (.int .i64 (belowV n : Int)) ∧ w' = w := by
  go_enter Try.func43, Try.ntmps43
  go_wp2
  go_loopw [3] (fun i wr => ∃ k j : Nat, k = 2 ^ j ∧ k < n ∧ i = .int .i64 (k : Int) ∧ wr = w) (fun i _ => n - (intOf i).toNat)
  case atStart => exact ⟨1, 0, rfl, by omega, rfl, rfl⟩
  case round =>
    obtain ⟨k, j, hkj, hk, rfl, rfl⟩ := hrel
    have hp : 0 < k := by rw [hkj]; exact Nat.two_pow_pos _
    obtain ⟨m, hm⟩ : ∃ m, m = n - k := ⟨_, rfl⟩
    have i1 : IntKind.i64.wrap ((n : Int) - k) = (m : Int) := by rw [IntWalk.i64_in _ (by omega)]; omega
    have HJ := Lib.hid (And.intro hkj (And.intro hm hp))
    by_cases hlt : k < m
    · have q1 : (k : Int) < m := by omega
      have i2 : IntKind.i64.wrap ((k : Int) * 2) = (k : Int) * 2 := IntWalk.i64_in _ (by omega)
      clear hkj hm hp
      go_wp2
      exact ⟨⟨k * 2, j + 1, by rw [HJ.out.1, Nat.pow_succ], by have := HJ.out; omega, by go_num, by first | rfl | trivial⟩, by have := HJ.out; simp [intOf]; omega⟩
    · have q1 : ¬ ((k : Int) < m) := by omega
      clear hkj hm hp
      go_wp2
      go_ret
      exact ⟨congrArg (fun x : Nat => Ending.returned (Value.int .i64 (x : Int))) (HJ.out.1.trans (belowV_unique (n := n) (j := j) (by have := HJ.out; omega) (by have := HJ.out; omega))), rfl⟩

set_option maxHeartbeats 400000 in
theorem cut_any (w : World) (n : Nat) (h2 : 2 ≤ n) (hn : n ≤ 4611686018427387904) :
    Calls Try.prog 40 #[.int .i64 (n : Int)] w fun e w' => e = .returned (.int .i64 (belowV n : Int)) ∧ w' = w := by
  go_enter Try.func40, Try.ntmps40
  go_wp2
  go_loopw [3] (fun i wr => ∃ k j : Nat, k = 2 ^ j ∧ k < n ∧ i = .int .i64 (k : Int) ∧ wr = w) (fun i _ => n - (intOf i).toNat)
  case atStart => exact ⟨1, 0, rfl, by omega, rfl, rfl⟩
  case round =>
    obtain ⟨k, j, hkj, hk, rfl, rfl⟩ := hrel
    have hp : 0 < k := by rw [hkj]; exact Nat.two_pow_pos _
    obtain ⟨m, hm⟩ : ∃ m, m = 2 * k := ⟨_, rfl⟩
    have i1 : IntKind.i64.wrap (2 * (k : Int)) = (m : Int) := by rw [IntWalk.i64_in _ (by omega)]; omega
    have HJ := Lib.hid (And.intro hkj (And.intro hm hp))
    by_cases hlt : m < n
    · have q1 : (m : Int) < n := by omega
      clear hkj hm hp
      go_wp2
      exact ⟨⟨m, j + 1, by rw [HJ.out.2.1, HJ.out.1, Nat.pow_succ, Nat.mul_comm], by omega, by first | rfl | trivial, by first | rfl | trivial⟩, by have := HJ.out; simp [intOf]; omega⟩
    · have q1 : ¬ ((m : Int) < n) := by omega
      clear hkj hm hp
      go_wp2
      go_ret
      exact ⟨congrArg (fun x : Nat => Ending.returned (Value.int .i64 (x : Int))) (HJ.out.1.trans (belowV_unique (n := n) (j := j) (by have := HJ.out; omega) (by have := HJ.out; omega))), rfl⟩
end Go.Proofs.Ytjbigghjbcjelaa
