/- Package mlog and the reference's chapter 9: roots of leaves. -/
import Derived.Test.YtjbigghjbcjelaaMlog
namespace Go.Proofs.Ytjbigghjbcjelaa
open Go.RowKit

def strs (ls : List (List UInt8)) : List Value := ls.map fun l => .string (bstr l)
theorem strs_length (ls : List (List UInt8)) : (strs ls).length = ls.length := by simp [strs]
/-- The root of leaves. -/
def rootV (ls : List (List UInt8)) : List UInt8 :=
  if _h : 2 ≤ ls.length then joinV (rootV (ls.take (belowV ls.length))) (rootV (ls.drop (belowV ls.length)))
  else match ls with
    | [] => shaV []
    | l :: _ => leafV l
termination_by ls.length
decreasing_by
  · have := belowV_lt _h; simp; omega
  · have := belowV_pos ls.length; simp; omega
theorem rootV_nil : rootV [] = shaV [] := by rw [rootV]; simp
theorem rootV_one (l : List UInt8) : rootV [l] = leafV l := by rw [rootV]; simp
theorem rootV_more {ls : List (List UInt8)} (h : 2 ≤ ls.length) : rootV ls = joinV (rootV (ls.take (belowV ls.length))) (rootV (ls.drop (belowV ls.length))) := by
  rw [rootV, dif_pos h]
theorem rootV_length (ls : List (List UInt8)) : (rootV ls).length = 32 := by
  rw [rootV]
  split
  · exact joinV_length _ _
  · cases ls with
    | nil => exact shaV_length _
    | cons l t => exact leafV_length _
/-- Texts of a length that an argument may have. -/
def Fits (ls : List (List UInt8)) : Prop := ∀ l ∈ ls, l.length ≤ 140737488351232

set_option maxHeartbeats 1000000 in
theorem Root_nil (w : World) (ao : Option Addr) (c : Nat) : Calls Try.prog 18 #[.slice ao 0 c] w fun e w' => e = .returned (hv (rootV [])) ∧ Pure w w' := by
  obtain ⟨X, hXl, HZ⟩ := ex28
  have hll : ([] : List UInt8).length ≤ 140737488355328 := by simp
  go_enter Try.func18, Try.ntmps18
  go_wp2_with (refine wpList_allocZ rfl 28 rfl X HZ.out ?_)
  intro g0 w1 e0 c0 t0 s0
  have l0 : w.heap.size ≤ g0 := by omega
  clear e0 s0
  have C0 := Lib.hid c0; have P1 := Lib.hid t0; clear c0 t0
  go_wp2_with fail
  refine (Sum_any _ [] hll).mono ?_
  rintro e w2 ⟨rfl, t2⟩
  have C2 := Lib.hid (t2.obj C0.out (fun e => e))
  have P2 := Lib.hid (P1.out.pure t2)
  clear C0 P1 t2 hll
  rw [← rootV_nil]
  go_wp2_with (refine wpList_store_blk rfl 28 _ _ rfl g0 _ (u8s (rootV [])) _ rfl rfl C2.out (size28 hXl (rootV_length [])) (info28_l (rootV_length [])) (u8s_one _) ?_)
  intro w9 c9 t9 _
  have hc9 := Lib.hid c9; clear c9
  have HT9 := Lib.hid (P2.out.trans t9 fun i hi e => by omega)
  clear t9
  go_wp2
  exact bodyPost_ret (v := hv (rootV [])) (results_cell_row Try.results18 _ _ g0 _ (u8s (rootV [])).toArray _ _ rfl hc9.out Try.underlying28 rfl (info28_a (rootV_length []))) rfl ⟨rfl, HT9.out⟩

set_option maxHeartbeats 1000000 in
theorem Root_one (w : World) (l : List UInt8) (b o c : Nat) (hl : l.length ≤ 140737488351232) (hr : w.rangeAt b o (strs [l])) :
    Calls Try.prog 18 #[.slice (some ⟨b, o, none⟩) 1 c] w fun e w' => e = .returned (hv (rootV [l])) ∧ Pure w w' := by
  obtain ⟨X, hXl, HZ⟩ := ex28
  have hc : w.cell? ⟨b, o, none⟩ = some (.string (bstr l)) := hr 0 _ rfl
  have HC := Lib.hid hc; clear hc
  go_enter Try.func18, Try.ntmps18
  go_wp2_with (refine wpList_allocZ rfl 28 rfl X HZ.out ?_)
  intro g0 w1 e0 c0 t0 s0
  have l0 : w.heap.size ≤ g0 := by omega
  clear e0 s0
  have hc := t0.cell HC.out (fun e => e)
  have C0 := Lib.hid c0; have P1 := Lib.hid t0; clear c0 t0
  go_wp2_with fail
  refine (Leaf_any _ l hl).mono ?_
  rintro e w2 ⟨rfl, t2⟩
  have C2 := Lib.hid (t2.obj C0.out (fun e => e))
  have P2 := Lib.hid (P1.out.pure t2)
  clear C0 P1 t2 hc
  rw [← rootV_one]
  go_wp2_with (refine wpList_store_blk rfl 28 _ _ rfl g0 _ (u8s (rootV [l])) _ rfl rfl C2.out (size28 hXl (rootV_length _)) (info28_l (rootV_length _)) (u8s_one _) ?_)
  intro w9 c9 t9 _
  have hc9 := Lib.hid c9; clear c9
  have HT9 := Lib.hid (P2.out.trans t9 fun i hi e => by omega)
  clear t9
  go_wp2
  exact bodyPost_ret (v := hv (rootV [l])) (results_cell_row Try.results18 _ _ g0 _ (u8s (rootV [l])).toArray _ _ rfl hc9.out Try.underlying28 rfl (info28_a (rootV_length _))) rfl ⟨rfl, HT9.out⟩

set_option maxHeartbeats 1000000 in
theorem Root_more (w : World) (ls : List (List UInt8)) (b o c : Nat) (h2 : 2 ≤ ls.length) (hc : ls.length ≤ c) (hn : ls.length ≤ 4611686018427387904) (hr : w.rangeAt b o (strs ls))
    (i1 : ∀ W : World, W.rangeAt b o (strs (ls.take (belowV ls.length))) → Calls Try.prog 18 #[.slice (some ⟨b, o, none⟩) (belowV ls.length) c] W fun e w' => e = .returned (hv (rootV (ls.take (belowV ls.length)))) ∧ Pure W w')
    (i2 : ∀ W : World, W.rangeAt b (o + belowV ls.length) (strs (ls.drop (belowV ls.length))) → Calls Try.prog 18 #[.slice (some ⟨b, o + belowV ls.length, none⟩) (ls.length - belowV ls.length) (c - belowV ls.length)] W fun e w' => e = .returned (hv (rootV (ls.drop (belowV ls.length)))) ∧ Pure W w') :
    Calls Try.prog 18 #[.slice (some ⟨b, o, none⟩) ls.length c] w fun e w' => e = .returned (hv (rootV ls)) ∧ Pure w w' := by
  have hrm := rootV_more h2
  have hr1 : w.rangeAt b o (strs (ls.take (belowV ls.length))) := fun j v hj => by
    refine hr j v ?_
    rw [strs, List.map_take, List.getElem?_take] at hj
    split at hj
    · exact hj
    · cases hj
  have hr2 : w.rangeAt b (o + belowV ls.length) (strs (ls.drop (belowV ls.length))) := fun j v hj => by
    rw [Nat.add_assoc]
    refine hr _ v ?_
    rw [strs, List.map_drop, List.getElem?_drop] at hj
    exact hj
  obtain ⟨X, hXl, HZ⟩ := ex28
  have hk1 := belowV_lt h2
  have hk0 := belowV_pos ls.length
  obtain ⟨n, hnn⟩ : ∃ n, n = ls.length := ⟨_, rfl⟩
  rw [← hnn] at hk1 hk0 hn hc h2 i1 i2 hr1 hr2 hrm ⊢
  have hbel := fun W => Below_any W n h2 hn
  generalize belowV n = k at hk1 hk0 i1 i2 hr1 hr2 hrm hbel
  have HI := Lib.hid (And.intro i1 i2); clear i1 i2
  have HRM := Lib.hid hrm; clear hrm
  have HR := Lib.hid (And.intro hr1 hr2); clear hr1 hr2 hr
  have q1 : (n == 0) = false := by simp; omega
  have q2 : (n == 1) = false := by simp; omega
  have q3 : ((n : Int) == 0) = false := by simp; omega
  have q4 : ((n : Int) == 1) = false := by simp; omega
  have q5 : (0 : Int) ≤ k := by omega
  have q6 : (k : Int) ≤ n := by omega
  have q7 : (k : Int) ≤ c := by omega
  have q8 : ¬ c = k := by omega
  have q9 : ¬ c = 0 := by omega
  have HN := Lib.hid (And.intro hnn (And.intro h2 (And.intro hc (And.intro hk1 hk0)))); clear hnn h2 hc hk1 hk0 hn
  have HBEL := Lib.hid hbel; clear hbel
  go_enter Try.func18, Try.ntmps18
  go_wp2_with (refine wpList_allocZ rfl 28 rfl X HZ.out ?_)
  intro g0 w1 e0 c0 t0 s0
  have l0 : w.heap.size ≤ g0 := by omega
  clear e0 s0
  have C0 := Lib.hid c0; have P1 := Lib.hid t0; clear c0 t0
  go_wp2_with fail
  refine (HBEL.out _).mono ?_
  rintro e w2 ⟨rfl, rfl⟩
  have HR1 := Lib.hid (And.intro (P1.out.drew.range HR.out.1 (fun e => e)) (P1.out.drew.range HR.out.2 (fun e => e)))
  go_wp2_with fail
  refine wp_region_held_drew (S := fun _ => True) (by kernel_rfl) trivial (fun _ => ?_)
  refine wpAnyH_take (i := 0) (v := .slice (some ⟨b, o, none⟩) n c) rfl (by kernel_rfl) (by kernel_rfl) (by kernel_rfl) (fun _ _ _ h => h) (Or.inl ⟨by rfl, fun w _ => by go_simp⟩) trivial ?_
  simp only [Act.put, List.setIfInBounds_toArray]
  refine wpAnyH_take (i := 1) (v := .int .i64 (k : Int)) rfl (by kernel_rfl) (by kernel_rfl) (by kernel_rfl) (fun _ _ _ h => h) (Or.inl ⟨by rfl, fun w _ => by go_simp⟩) trivial ?_
  simp only [Act.put]
  refine wpAnyH_take (i := 2) (v := .slice (some ⟨b, o, none⟩) k c) rfl (by kernel_rfl) (by kernel_rfl) (by kernel_rfl) (fun _ _ _ h => h) (Or.inl ⟨by rfl, fun w _ => by go_simp⟩) trivial ?_
  simp only [Act.put]
  refine wpAnyH_take (i := 4) (v := .slice (some ⟨b, o, none⟩) n c) rfl (by kernel_rfl) (by kernel_rfl) (by kernel_rfl) (fun _ _ _ h => h) (Or.inl ⟨by rfl, fun w _ => by go_simp⟩) trivial ?_
  simp only [Act.put]
  refine wpAnyH_take (i := 5) (v := .int .i64 (k : Int)) rfl (by kernel_rfl) (by kernel_rfl) (by kernel_rfl) (fun _ _ _ h => h) (Or.inl ⟨by rfl, fun w _ => by go_simp⟩) trivial ?_
  simp only [Act.put]
  refine wpAnyH_take (i := 6) (v := .slice (some ⟨b, o + k, none⟩) (n - k) (c - k)) rfl (by kernel_rfl) (by kernel_rfl) (by kernel_rfl) (fun _ _ _ h => h) (Or.inl ⟨by rfl, fun w _ => by go_simp⟩) trivial ?_
  simp only [Act.put]
  refine wpAnyH_seq [3, 7, 8, 9] _ _ _ _ (by kernel_rfl) (by simp) ?_
  simp only [List.filterMap_cons, List.filterMap_nil, List.getElem?_toArray, List.getElem?_cons_zero, List.getElem?_cons_succ]
  have C4 := Lib.hid (show w2.drew.heap[g0]? = _ from C0.out)
  have P4 := Lib.hid (P1.out.drew)
  generalize w2.drew = w4 at *
  clear C0 P1
  refine wpSeqH_step fun K hK => ?_
  go_simp
  refine (HI.out.1 _ HR1.out.1).mono ?_
  rintro e w5 ⟨rfl, t5⟩
  have C5 := Lib.hid (t5.obj C4.out (fun e => e))
  have P5 := Lib.hid (P4.out.pure t5)
  have HR5 := Lib.hid (t5.range HR1.out.2 (fun e => e))
  refine hK.out _ _ trivial ?_
  clear hK K t5 C4 P4 HR1
  refine wpSeqH_step fun K hK => ?_
  go_simp
  refine (HI.out.2 _ HR5.out).mono ?_
  rintro e w6 ⟨rfl, t6⟩
  have C6 := Lib.hid (t6.obj C5.out (fun e => e))
  have P6 := Lib.hid (P5.out.pure t6)
  refine hK.out _ _ trivial ?_
  clear hK K t6 C5 P5 HR5
  refine wpSeqH_step fun K hK => ?_
  go_simp
  refine (Join_any _ _ _ (rootV_length _) (rootV_length _)).mono ?_
  rintro e w7 ⟨rfl, t7⟩
  have C7 := Lib.hid (t7.obj C6.out (fun e => e))
  have P7 := Lib.hid (P6.out.pure t7)
  refine hK.out _ _ trivial ?_
  clear hK K t7 C6 P6
  rw [← HRM.out]
  refine wpSeqH_store_blk rfl 28 _ _ rfl g0 _ (u8s (rootV ls)) _ rfl rfl C7.out (size28 hXl (rootV_length _)) (info28_l (rootV_length _)) (u8s_one _) ?_
  intro w9 c9 t9 _
  refine ⟨trivial, wpSeqH_nil ?_⟩
  have hc9 := Lib.hid c9; clear c9
  have HT9 := Lib.hid (P7.out.trans t9 fun i hi e => by omega)
  clear t9 C7 P7
  go_wp2
  exact bodyPost_ret (v := hv (rootV ls)) (results_cell_row Try.results18 _ _ g0 _ (u8s (rootV ls)).toArray _ _ rfl hc9.out Try.underlying28 rfl (info28_a (rootV_length _))) rfl ⟨rfl, HT9.out⟩

/-- The root of leaves that lie in a row. -/
theorem Root_at : ∀ (m : Nat) (ls : List (List UInt8)), ls.length = m → ∀ (w : World) (b o c : Nat), m ≤ c → m ≤ 4611686018427387904 → Fits ls → w.rangeAt b o (strs ls) →
    Calls Try.prog 18 #[.slice (some ⟨b, o, none⟩) m c] w fun e w' => e = .returned (hv (rootV ls)) ∧ Pure w w' := by
  intro m
  induction m using Nat.strongRecOn with
  | _ m ih =>
    intro ls hm w b o c hc hn hf hr
    subst hm
    by_cases h2 : 2 ≤ ls.length
    · have hk1 := belowV_lt h2
      have hk0 := belowV_pos ls.length
      refine Root_more w ls b o c h2 hc hn hr (fun W hW => ?_) (fun W hW => ?_)
      · exact ih (belowV ls.length) hk1 (ls.take (belowV ls.length)) (by simp; omega) W b o c (by omega) (by omega) (fun l hl => hf l (List.mem_of_mem_take hl)) hW
      · exact ih (ls.length - belowV ls.length) (by omega) (ls.drop (belowV ls.length)) (by simp) W b (o + belowV ls.length) (c - belowV ls.length) (by omega) (by omega) (fun l hl => hf l (List.mem_of_mem_drop hl)) hW
    · match ls, h2, hf, hr with
      | [], _, _, _ => exact Root_nil w _ c
      | [l], _, hf, hr => exact Root_one w l b o c (hf l (by simp)) hr
      | _ :: _ :: t, h2, _, _ => exact absurd (by simp) h2

set_option maxHeartbeats 1000000 in
theorem RRoot_nil (w : World) (ao : Option Addr) (c : Nat) : Calls Try.prog 16 #[.slice ao 0 c] w fun e w' => e = .returned (hv (rootV [])) ∧ Pure w w' := by
  obtain ⟨X, hXl, HZ⟩ := ex28
  have hll : ([] : List UInt8).length ≤ 281474976710656 := by simp
  go_enter Try.func16, Try.ntmps16
  go_wp2_with (refine wpList_allocZ rfl 28 rfl X HZ.out ?_)
  intro g0 w1 e0 c0 t0 s0
  have l0 : w.heap.size ≤ g0 := by omega
  clear e0 s0
  have C0 := Lib.hid c0; have P1 := Lib.hid t0; clear c0 t0
  go_wp2_with fail
  refine (Sha_any _ [] hll).mono ?_
  rintro e w2 ⟨rfl, t2⟩
  have C2 := Lib.hid (t2.obj C0.out (fun e => e))
  have P2 := Lib.hid (P1.out.pure t2)
  clear C0 P1 t2 hll
  rw [← rootV_nil]
  go_wp2_with (refine wpList_store_blk rfl 28 _ _ rfl g0 _ (u8s (rootV [])) _ rfl rfl C2.out (size28 hXl (rootV_length [])) (info28_l (rootV_length [])) (u8s_one _) ?_)
  intro w9 c9 t9 _
  have hc9 := Lib.hid c9; clear c9
  have HT9 := Lib.hid (P2.out.trans t9 fun i hi e => by omega)
  clear t9
  go_wp2
  exact bodyPost_ret (v := hv (rootV [])) (results_cell_row Try.results16 _ _ g0 _ (u8s (rootV [])).toArray _ _ rfl hc9.out Try.underlying28 rfl (info28_a (rootV_length []))) rfl ⟨rfl, HT9.out⟩

set_option maxHeartbeats 1000000 in
theorem RRoot_one (w : World) (l : List UInt8) (b o c : Nat) (hl : l.length ≤ 140737488351232) (hr : w.rangeAt b o (strs [l])) :
    Calls Try.prog 16 #[.slice (some ⟨b, o, none⟩) 1 c] w fun e w' => e = .returned (hv (rootV [l])) ∧ Pure w w' := by
  obtain ⟨X, hXl, HZ⟩ := ex28
  have hc : w.cell? ⟨b, o, none⟩ = some (.string (bstr l)) := hr 0 _ rfl
  have HC := Lib.hid hc; clear hc
  go_enter Try.func16, Try.ntmps16
  go_wp2_with (refine wpList_allocZ rfl 28 rfl X HZ.out ?_)
  intro g0 w1 e0 c0 t0 s0
  have l0 : w.heap.size ≤ g0 := by omega
  clear e0 s0
  have hc := t0.cell HC.out (fun e => e)
  have C0 := Lib.hid c0; have P1 := Lib.hid t0; clear c0 t0
  go_wp2_with fail
  refine (RLeaf_any _ l hl).mono ?_
  rintro e w2 ⟨rfl, t2⟩
  have C2 := Lib.hid (t2.obj C0.out (fun e => e))
  have P2 := Lib.hid (P1.out.pure t2)
  clear C0 P1 t2 hc
  rw [← rootV_one]
  go_wp2_with (refine wpList_store_blk rfl 28 _ _ rfl g0 _ (u8s (rootV [l])) _ rfl rfl C2.out (size28 hXl (rootV_length _)) (info28_l (rootV_length _)) (u8s_one _) ?_)
  intro w9 c9 t9 _
  have hc9 := Lib.hid c9; clear c9
  have HT9 := Lib.hid (P2.out.trans t9 fun i hi e => by omega)
  clear t9
  go_wp2
  exact bodyPost_ret (v := hv (rootV [l])) (results_cell_row Try.results16 _ _ g0 _ (u8s (rootV [l])).toArray _ _ rfl hc9.out Try.underlying28 rfl (info28_a (rootV_length _))) rfl ⟨rfl, HT9.out⟩

set_option maxHeartbeats 1000000 in
theorem RRoot_more (w : World) (ls : List (List UInt8)) (b o c : Nat) (h2 : 2 ≤ ls.length) (hc : ls.length ≤ c) (hn : ls.length ≤ 4611686018427387904) (hr : w.rangeAt b o (strs ls))
    (i1 : ∀ W : World, W.rangeAt b o (strs (ls.take (belowV ls.length))) → Calls Try.prog 16 #[.slice (some ⟨b, o, none⟩) (belowV ls.length) c] W fun e w' => e = .returned (hv (rootV (ls.take (belowV ls.length)))) ∧ Pure W w')
    (i2 : ∀ W : World, W.rangeAt b (o + belowV ls.length) (strs (ls.drop (belowV ls.length))) → Calls Try.prog 16 #[.slice (some ⟨b, o + belowV ls.length, none⟩) (ls.length - belowV ls.length) (c - belowV ls.length)] W fun e w' => e = .returned (hv (rootV (ls.drop (belowV ls.length)))) ∧ Pure W w') :
    Calls Try.prog 16 #[.slice (some ⟨b, o, none⟩) ls.length c] w fun e w' => e = .returned (hv (rootV ls)) ∧ Pure w w' := by
  have hrm := rootV_more h2
  have hr1 : w.rangeAt b o (strs (ls.take (belowV ls.length))) := fun j v hj => by
    refine hr j v ?_
    rw [strs, List.map_take, List.getElem?_take] at hj
    split at hj
    · exact hj
    · cases hj
  have hr2 : w.rangeAt b (o + belowV ls.length) (strs (ls.drop (belowV ls.length))) := fun j v hj => by
    rw [Nat.add_assoc]
    refine hr _ v ?_
    rw [strs, List.map_drop, List.getElem?_drop] at hj
    exact hj
  obtain ⟨X, hXl, HZ⟩ := ex28
  have hk1 := belowV_lt h2
  have hk0 := belowV_pos ls.length
  obtain ⟨n, hnn⟩ : ∃ n, n = ls.length := ⟨_, rfl⟩
  rw [← hnn] at hk1 hk0 hn hc h2 i1 i2 hr1 hr2 hrm ⊢
  have hbel := fun W => cut_any W n h2 hn
  generalize belowV n = k at hk1 hk0 i1 i2 hr1 hr2 hrm hbel
  have HI := Lib.hid (And.intro i1 i2); clear i1 i2
  have HRM := Lib.hid hrm; clear hrm
  have HR := Lib.hid (And.intro hr1 hr2); clear hr1 hr2 hr
  have q1 : (n == 0) = false := by simp; omega
  have q2 : (n == 1) = false := by simp; omega
  have q3 : ((n : Int) == 0) = false := by simp; omega
  have q4 : ((n : Int) == 1) = false := by simp; omega
  have q5 : (0 : Int) ≤ k := by omega
  have q6 : (k : Int) ≤ n := by omega
  have q7 : (k : Int) ≤ c := by omega
  have q8 : ¬ c = k := by omega
  have q9 : ¬ c = 0 := by omega
  have HN := Lib.hid (And.intro hnn (And.intro h2 (And.intro hc (And.intro hk1 hk0)))); clear hnn h2 hc hk1 hk0 hn
  have HBEL := Lib.hid hbel; clear hbel
  go_enter Try.func16, Try.ntmps16
  go_wp2_with (refine wpList_allocZ rfl 28 rfl X HZ.out ?_)
  intro g0 w1 e0 c0 t0 s0
  have l0 : w.heap.size ≤ g0 := by omega
  clear e0 s0
  have C0 := Lib.hid c0; have P1 := Lib.hid t0; clear c0 t0
  go_wp2_with fail
  refine (HBEL.out _).mono ?_
  rintro e w2 ⟨rfl, rfl⟩
  have HR1 := Lib.hid (And.intro (P1.out.drew.range HR.out.1 (fun e => e)) (P1.out.drew.range HR.out.2 (fun e => e)))
  go_wp2_with fail
  refine wp_region_held_drew (S := fun _ => True) (by kernel_rfl) trivial (fun _ => ?_)
  refine wpAnyH_take (i := 0) (v := .slice (some ⟨b, o, none⟩) n c) rfl (by kernel_rfl) (by kernel_rfl) (by kernel_rfl) (fun _ _ _ h => h) (Or.inl ⟨by rfl, fun w _ => by go_simp⟩) trivial ?_
  simp only [Act.put, List.setIfInBounds_toArray]
  refine wpAnyH_take (i := 1) (v := .int .i64 (k : Int)) rfl (by kernel_rfl) (by kernel_rfl) (by kernel_rfl) (fun _ _ _ h => h) (Or.inl ⟨by rfl, fun w _ => by go_simp⟩) trivial ?_
  simp only [Act.put]
  refine wpAnyH_take (i := 2) (v := .slice (some ⟨b, o, none⟩) k c) rfl (by kernel_rfl) (by kernel_rfl) (by kernel_rfl) (fun _ _ _ h => h) (Or.inl ⟨by rfl, fun w _ => by go_simp⟩) trivial ?_
  simp only [Act.put]
  refine wpAnyH_take (i := 4) (v := .slice (some ⟨b, o, none⟩) n c) rfl (by kernel_rfl) (by kernel_rfl) (by kernel_rfl) (fun _ _ _ h => h) (Or.inl ⟨by rfl, fun w _ => by go_simp⟩) trivial ?_
  simp only [Act.put]
  refine wpAnyH_take (i := 5) (v := .int .i64 (k : Int)) rfl (by kernel_rfl) (by kernel_rfl) (by kernel_rfl) (fun _ _ _ h => h) (Or.inl ⟨by rfl, fun w _ => by go_simp⟩) trivial ?_
  simp only [Act.put]
  refine wpAnyH_take (i := 6) (v := .slice (some ⟨b, o + k, none⟩) (n - k) (c - k)) rfl (by kernel_rfl) (by kernel_rfl) (by kernel_rfl) (fun _ _ _ h => h) (Or.inl ⟨by rfl, fun w _ => by go_simp⟩) trivial ?_
  simp only [Act.put]
  refine wpAnyH_seq [3, 7, 8, 9] _ _ _ _ (by kernel_rfl) (by simp) ?_
  simp only [List.filterMap_cons, List.filterMap_nil, List.getElem?_toArray, List.getElem?_cons_zero, List.getElem?_cons_succ]
  have C4 := Lib.hid (show w2.drew.heap[g0]? = _ from C0.out)
  have P4 := Lib.hid (P1.out.drew)
  generalize w2.drew = w4 at *
  clear C0 P1
  refine wpSeqH_step fun K hK => ?_
  go_simp
  refine (HI.out.1 _ HR1.out.1).mono ?_
  rintro e w5 ⟨rfl, t5⟩
  have C5 := Lib.hid (t5.obj C4.out (fun e => e))
  have P5 := Lib.hid (P4.out.pure t5)
  have HR5 := Lib.hid (t5.range HR1.out.2 (fun e => e))
  refine hK.out _ _ trivial ?_
  clear hK K t5 C4 P4 HR1
  refine wpSeqH_step fun K hK => ?_
  go_simp
  refine (HI.out.2 _ HR5.out).mono ?_
  rintro e w6 ⟨rfl, t6⟩
  have C6 := Lib.hid (t6.obj C5.out (fun e => e))
  have P6 := Lib.hid (P5.out.pure t6)
  refine hK.out _ _ trivial ?_
  clear hK K t6 C5 P5 HR5
  refine wpSeqH_step fun K hK => ?_
  go_simp
  refine (over_any _ _ _ (rootV_length _) (rootV_length _)).mono ?_
  rintro e w7 ⟨rfl, t7⟩
  have C7 := Lib.hid (t7.obj C6.out (fun e => e))
  have P7 := Lib.hid (P6.out.pure t7)
  refine hK.out _ _ trivial ?_
  clear hK K t7 C6 P6
  rw [← HRM.out]
  refine wpSeqH_store_blk rfl 28 _ _ rfl g0 _ (u8s (rootV ls)) _ rfl rfl C7.out (size28 hXl (rootV_length _)) (info28_l (rootV_length _)) (u8s_one _) ?_
  intro w9 c9 t9 _
  refine ⟨trivial, wpSeqH_nil ?_⟩
  have hc9 := Lib.hid c9; clear c9
  have HT9 := Lib.hid (P7.out.trans t9 fun i hi e => by omega)
  clear t9 C7 P7
  go_wp2
  exact bodyPost_ret (v := hv (rootV ls)) (results_cell_row Try.results16 _ _ g0 _ (u8s (rootV ls)).toArray _ _ rfl hc9.out Try.underlying28 rfl (info28_a (rootV_length _))) rfl ⟨rfl, HT9.out⟩

/-- The root of leaves that lie in a row. -/
theorem RRoot_at : ∀ (m : Nat) (ls : List (List UInt8)), ls.length = m → ∀ (w : World) (b o c : Nat), m ≤ c → m ≤ 4611686018427387904 → Fits ls → w.rangeAt b o (strs ls) →
    Calls Try.prog 16 #[.slice (some ⟨b, o, none⟩) m c] w fun e w' => e = .returned (hv (rootV ls)) ∧ Pure w w' := by
  intro m
  induction m using Nat.strongRecOn with
  | _ m ih =>
    intro ls hm w b o c hc hn hf hr
    subst hm
    by_cases h2 : 2 ≤ ls.length
    · have hk1 := belowV_lt h2
      have hk0 := belowV_pos ls.length
      refine RRoot_more w ls b o c h2 hc hn hr (fun W hW => ?_) (fun W hW => ?_)
      · exact ih (belowV ls.length) hk1 (ls.take (belowV ls.length)) (by simp; omega) W b o c (by omega) (by omega) (fun l hl => hf l (List.mem_of_mem_take hl)) hW
      · exact ih (ls.length - belowV ls.length) (by omega) (ls.drop (belowV ls.length)) (by simp) W b (o + belowV ls.length) (c - belowV ls.length) (by omega) (by omega) (fun l hl => hf l (List.mem_of_mem_drop hl)) hW
    · match ls, h2, hf, hr with
      | [], _, _, _ => exact RRoot_nil w _ c
      | [l], _, hf, hr => exact RRoot_one w l b o c (hf l (by simp)) hr
      | _ :: _ :: t, h2, _, _ => exact absurd (by simp) h2
end Go.Proofs.Ytjbigghjbcjelaa
