/- Chapter 22: each part of a message. -/
import Derived.Test.YtigkmdjdnkbdkaaMsg9
import Derived.Test.YtigkmdjdnkbdkaaInv
import Derived.Test.YtigkmdjdnkbdkaaNew
namespace Go.Proofs.Ytigkmdjdnkbdkaa
open Go.RowKit
set_option maxRecDepth 100000

theorem made_same (z : List Value) (v : Value) (n : Nat) (hz : z.length ≠ 0) (h : ∀ u ∈ z, u = v) : madeCells z.toArray n = (List.replicate n v).toArray := by
  apply Array.toList_inj.1
  simp only [madeCells, Array.toList_map]
  apply List.ext_getElem
  · simp
  · intro i h1 h2
    have hlt : i % z.length < z.length := Nat.mod_lt _ (Nat.pos_of_ne_zero hz)
    simp [hlt]
    exact h _ (List.getElem_mem _)
theorem rowOf_same (n : Nat) : rowOf u8s (List.replicate n (List.replicate 32 0)) = List.replicate (n * 32) (.int .u8 0) := by
  induction n with
  | zero => rfl
  | succ n ih =>
    have e : rowOf u8s (List.replicate (n + 1) (List.replicate 32 0)) = u8s (List.replicate 32 0) ++ rowOf u8s (List.replicate n (List.replicate 32 0)) := by rw [List.replicate_succ, rowOf, List.flatMap_cons]; rfl
    have e2 : u8s (List.replicate 32 0) = List.replicate 32 (.int .u8 0) := rfl
    rw [e, ih, e2, List.replicate_append_replicate]
    congr 1
    omega
theorem rowOf_empty (n : Nat) : rowOf txtC (List.replicate n []) = List.replicate (n * 1) (.string ⟨#[]⟩) := by
  induction n with
  | zero => rfl
  | succ n ih =>
    have e : rowOf txtC (List.replicate (n + 1) []) = .string ⟨#[]⟩ :: rowOf txtC (List.replicate n []) := rfl
    rw [e, ih, Nat.mul_one, Nat.mul_one, List.replicate_succ]
theorem make28n (w : World) (n : Nat) (hn : n ≤ 1000000) : (Instr.makeSlice 23 (.int .i64 (n : Int)) (.int .i64 (n : Int))).run Try.prog w = .ok (.slice (some ⟨w.heap.size, 0, none⟩) n n) (w.alloc (.cells (rowOf u8s (List.replicate n (List.replicate 32 0))).toArray 45)) := by
  have h := zero28c
  cases hi : Try.prog.info? 45 with
  | none => rw [hi] at h; simp at h
  | some i =>
    rw [hi] at h
    simp only [Option.map_some, Option.some.injEq, Prod.mk.injEq] at h
    have := run_make (P := Try.prog) w 23 45 i _ Try.underlying23 hi h.1 .i64 .i64 n n (by omega) (by omega) (by rw [h.2.2]; omega) (by omega)
    rw [this, h.2.1, Int.toNat_natCast]
    rw [show (Value.agg (u8s (List.replicate 32 0)).toArray).cells = (u8s (List.replicate 32 0)).toArray from rfl, made_same (u8s (List.replicate 32 0)) (.int .u8 0) _ (by decide) (by intro u hu; rw [show u8s (List.replicate 32 0) = List.replicate 32 (.int .u8 0) from rfl] at hu; exact List.eq_of_mem_replicate hu), rowOf_same]
theorem makeTn (w : World) (n : Nat) (hn : n ≤ 1000000) : (Instr.makeSlice 24 (.int .i64 (n : Int)) (.int .i64 (n : Int))).run Try.prog w = .ok (.slice (some ⟨w.heap.size, 0, none⟩) n n) (w.alloc (.cells (rowOf txtC (List.replicate n [])).toArray 9)) := by
  have h := infoStr
  cases hi : Try.prog.info? 9 with
  | none => rw [hi] at h; simp at h
  | some i =>
    rw [hi] at h
    simp only [Option.map_some, Option.some.injEq, Prod.mk.injEq] at h
    have := run_make (P := Try.prog) w 24 9 i _ Try.underlying24 hi h.1 .i64 .i64 n n (by omega) (by omega) (by rw [h.2.2]; omega) (by omega)
    rw [this, h.2.1, Int.toNat_natCast]
    rw [rowOf_empty, show (Value.string ⟨#[]⟩).cells = ([Value.string ⟨#[]⟩] : List Value).toArray from rfl, made_same [.string ⟨#[]⟩] (.string ⟨#[]⟩) _ (by decide) (fun u hu => List.mem_singleton.1 hu)]
theorem may_kind {m : MsgP} (h : numOk m.kind 6 = false) : mayM m = false := by unfold mayM; rw [h]; rfl
theorem may_rest {m : MsgP} (h : restM m = false) : mayM m = false := by unfold mayM; rw [h, Bool.and_false]; rfl
theorem may_len {m : MsgP} (h : 65536 < (msgB m).length) : mayM m = false := by unfold mayM; rw [decide_eq_false (by omega : ¬ (msgB m).length ≤ 65536), Bool.and_false]
/-- The message of the law, as it was made. -/
def E0 (z : List UInt8) (v0 v1 : Value) : Ent := ⟨⟨0, 1, [1], z, [z], []⟩, v0, v1⟩
def M0 (z : List UInt8) (v0 v1 v3 v4 v5 : Value) : Msg := ⟨⟨2, 1, 0, [(E0 z v0 v1).p], [z, z], [[97]]⟩, [E0 z v0 v1], v3, v4, v5⟩
/-- A row that lies in a block of its own. -/
def SlAt (w0 w : World) (v : Value) (n : Nat) (o : Obj) : Prop := ∃ b, v = .slice (some ⟨b, 0, none⟩) n n ∧ w0.heap.size ≤ b ∧ w.heap[b]? = some o
theorem SlAt.pure {w0 w w' : World} {v : Value} {n : Nat} {o : Obj} (h : SlAt w0 w v n o) (p : Pure w w') : SlAt w0 w' v n o := by
  obtain ⟨b, h1, h2, h3⟩ := h
  exact ⟨b, h1, h2, p.obj h3 (fun e => e)⟩
theorem SlAt.store {w0 w w' : World} {v : Value} {n g : Nat} {o o' : Obj} (h : SlAt w0 w v n o) (p : Turn (fun k => k = g) w w') (hg : w.heap[g]? = some o') (hne : o ≠ o') : SlAt w0 w' v n o := by
  obtain ⟨b, h1, h2, h3⟩ := h
  exact ⟨b, h1, h2, p.obj h3 (fun e => by subst e; rw [hg] at h3; exact hne (Option.some.inj h3).symm)⟩
theorem set_other {l : Array Bool} {i k : Nat} (h : (l.setIfInBounds i true).getD k false = true) (hk : k ≠ i) : l.getD k false = true := (got_set h).resolve_left hk
theorem set_self {l : Array Bool} {i n : Nat} (h : l.getD i true = false) (_ : l.size = n) : (l.setIfInBounds i true).getD i false = true := by
  rcases Nat.lt_or_ge i l.size with h' | h'
  · simp [h']
  · simp [Array.getElem?_eq_none h'] at h
def P0 (z : List UInt8) : MsgP := ⟨2, 1, 0, [⟨0, 1, [1], z, [z], []⟩], [z, z], [[97]]⟩
theorem p0 : mayM (P0 (List.replicate 32 0)) = true := by decide +kernel
theorem mayE_seq0 {e : EntP} (h : e.seq = 0) : okP e = false := by unfold okP okE mayE; rw [h]; simp
theorem ne_types {g b : Nat} {w : World} {A B : Array Value} {T T' : TypeId} (h1 : w.heap[b]? = some (.cells A T (0, 0))) (h2 : w.heap[g]? = some (.cells B T' (0, 0))) (h : T ≠ T') : b ≠ g := fun e => by
  subst e
  rw [h1] at h2
  injection h2 with h2
  injection h2 with _ h3
  exact h h3
/-- What holds behind each operation that makes it. -/
def Made (w0 : World) (z : List UInt8) (ZM : List Value) (a0 : Act) (l : Array Bool) (a : Act) (w : World) : Prop :=
  ∃ v0 v1 v2 v3 v4 v5 v6 v7 : Value, a = (((((((a0.put (some 13) v0).put (some 14) v1).put (some 15) v2).put (some 16) v3).put (some 17) v4).put (some 18) v5).put (some 19) v6).put (some 5) v7 ∧ Pure w0 w ∧
    (l.getD 0 false = true → SlAt w0 w v0 1 (.cells #[.int .i64 1] 3 (0, 0))) ∧
    (l.getD 1 false = true → SlAt w0 w v1 1 (.cells (rowOf u8s [z]).toArray 45 (0, 0))) ∧
    (l.getD 2 false = true → l.getD 0 false = true ∧ l.getD 1 false = true ∧ v2 = .agg (entC (E0 z v0 v1)).toArray) ∧
    (l.getD 3 false = true → l.getD 2 false = true ∧ SlAt w0 w v3 1 (.cells (entC (E0 z v0 v1)).toArray 47 (0, 0))) ∧
    (l.getD 4 false = true → SlAt w0 w v4 2 (.cells (rowOf u8s [z, z]).toArray 45 (0, 0))) ∧
    (l.getD 5 false = true → SlAt w0 w v5 1 (.cells #[.string (bstr [97])] 9 (0, 0))) ∧
    (l.getD 6 false = true → l.getD 3 false = true ∧ l.getD 4 false = true ∧ l.getD 5 false = true ∧ v6 = .agg (msgC (M0 z v0 v1 v3 v4 v5)).toArray) ∧
    (l.getD 7 false = true → ∃ b, v7 = .pointer (some ⟨b, 0, none⟩) ∧ w0.heap.size ≤ b ∧ (l.getD 8 false = false → w.heap[b]? = some (.cells ZM.toArray 26 (0, 0))) ∧ (l.getD 8 false = true → l.getD 6 false = true ∧ w.heap[b]? = some (.cells (msgC (M0 z v0 v1 v3 v4 v5)).toArray 26 (0, 0)))) ∧ (l.getD 8 false = true → l.getD 7 false = true)
/-- What holds behind each operation that puts zero bytes in the first text's place (slots s0 to s4: the field's address, the row, the bytes, their text, the place). -/
def Conv (g b5 n : Nat) (S5 : Value) (w0 : World) (s0 s1 s2 s3 s4 k0 k1 k2 k3 k4 k5 : Nat) (a0 : Act) (l : Array Bool) (a : Act) (w : World) : Prop :=
  ∃ v0 v1 v2 v3 v4 : Value, a = ((((a0.put (some s0) v0).put (some s1) v1).put (some s2) v2).put (some s3) v3).put (some s4) v4 ∧
    (l.getD k0 false = true → v0 = .pointer (some ⟨g, 5, none⟩)) ∧ (l.getD k1 false = true → l.getD k0 false = true ∧ v1 = S5) ∧
    (l.getD k2 false = true → ∃ b, v2 = .slice (some ⟨b, 0, none⟩) n n ∧ w0.heap.size ≤ b ∧ w.heap[b]? = some (.cells (u8s (List.replicate n 0)).toArray 5 (0, 0))) ∧
    (l.getD k3 false = true → l.getD k2 false = true ∧ v3 = .string (bstr (List.replicate n 0))) ∧
    (l.getD k4 false = true → l.getD k0 false = true ∧ l.getD k1 false = true ∧ l.getD k2 false = true ∧ l.getD k3 false = true ∧ v4 = .pointer (some ⟨b5, 0, none⟩)) ∧
    (l.getD k5 false = true → l.getD k4 false = true) ∧
    Turn (fun k => k = b5) w0 w ∧ (l.getD k5 false = false → Pure w0 w) ∧ (l.getD k5 false = true → w.heap[b5]? = some (.cells #[.string (bstr (List.replicate n 0))] 9 (0, 0)))

set_option maxHeartbeats 8000000 in
theorem messageForms_walk (wh x : Int) (w : World) :
    Calls Try.prog 5 #[.int .i64 wh, .int .i64 x] w fun e w' => e = .returned (.bool true) ∧ Pure w w' := by
  obtain ⟨z, hz⟩ : ∃ z : List UInt8, z = List.replicate 32 0 := ⟨_, rfl⟩
  have hzl : z.length = 32 := by rw [hz]; rfl
  have hmk1 : ∀ W : World, (Instr.makeSlice 23 (.int .i64 1) (.int .i64 1)).run Try.prog W = .ok (.slice (some ⟨W.heap.size, 0, none⟩) 1 1) (W.alloc (.cells (rowOf u8s [z]).toArray 45)) := fun W => by rw [hz]; exact make28n W 1 (by decide)
  have hmk2 : ∀ W : World, (Instr.makeSlice 23 (.int .i64 2) (.int .i64 2)).run Try.prog W = .ok (.slice (some ⟨W.heap.size, 0, none⟩) 2 2) (W.alloc (.cells (rowOf u8s [z, z]).toArray 45)) := fun W => by rw [hz]; exact make28n W 2 (by decide)
  have hbE : ∀ v0 v1 : Value, v0.oneCell' = true → v1.oneCell' = true → True := fun _ _ _ _ => trivial
  have HZ := Lib.hid hz; clear hz hbE
  obtain ⟨ZM, hZM⟩ : ∃ Z, Z = msgC Msg0 := ⟨_, rfl⟩
  have HZL : ZM.length = 6 := by rw [hZM]; rfl
  have hzm := zeroM
  rw [← hZM] at hzm
  have HZM := Lib.hid hzm
  clear hzm hZM
  obtain ⟨iN, zN, HIN, hzN, hszN, hbyN, hzsN⟩ := partsE
  go_enter Try.func5, Try.ntmps5
  go_wp2_with fail
  refine (awake22 _).mono ?_
  rintro e w1 ⟨rfl, t1⟩
  have PT := Lib.hid t1
  have HW01 := Lib.hid t1.size
  clear t1
  go_wp2_with fail
  refine wp_region_invA (Made w1 z ZM) (by kernel_rfl) (by kernel_rfl) ?_ ?_ ?_
  case refine_1 =>
    exact ⟨_, _, _, _, _, _, _, _, rfl, (Turn.refl _ _).drew, none_got, none_got, none_got, none_got, none_got, none_got, none_got, none_got, none_got⟩
  case refine_2 =>
    intro i o ho l a w hu hd hls hF
    obtain ⟨v0, v1, v2, v3, v4, v5, v6, v7, hA, hP, f0, f1, f2, f3, f4, f5, f6, f7, f8⟩ := hF
    have hi : i < 9 := by simpa using (Array.getElem?_eq_some_iff.1 ho).1
    rcases (by omega : i = 0 ∨ i = 1 ∨ i = 2 ∨ i = 3 ∨ i = 4 ∨ i = 5 ∨ i = 6 ∨ i = 7 ∨ i = 8) with rfl | rfl | rfl | rfl | rfl | rfl | rfl | rfl | rfl
    · obtain rfl := Option.some.inj (show some _ = some o from ho)
      subst hA
      simp only [AP]
      go_wp2
      have p := ((Turn.refl (fun _ => False) w).alloc (.cells #[.int .i64 1] 3) : Pure w (w.alloc (.cells #[.int .i64 1] 3)))
      refine ⟨.slice (some ⟨w.heap.size, 0, none⟩) 1 1, v1, v2, v3, v4, v5, v6, v7, by simp only [AP], hP.trans p (fun _ _ e => e), (fun _ => ⟨_, rfl, hP.size, heap_alloc_new _ _⟩), (fun h => (f1 (set_other h (by decide))).pure p), (fun h => not_got hu (f2 (set_other h (by decide))).1), (fun h => not_got hu (f2 (f3 (set_other h (by decide))).1).1), (fun h => (f4 (set_other h (by decide))).pure p), (fun h => (f5 (set_other h (by decide))).pure p), (fun h => not_got hu (f2 (f3 (f6 (set_other h (by decide))).1).1).1), (fun h => by obtain ⟨b, q1, q2, q3, q4⟩ := f7 (set_other h (by decide)); exact ⟨b, q1, q2, fun h8 => p.obj (q3 (by rwa [getD_set_ne false (by decide)] at h8)) (fun e => e), (fun h8 => not_got hu (have q6 := (q4 (set_other h8 (by decide))).1; (f2 (f3 (f6 q6).1).1).1))⟩), (fun h => getD_set_true (f8 (set_other h (by decide))))⟩
    · obtain rfl := Option.some.inj (show some _ = some o from ho)
      subst hA
      simp only [AP]
      go_wp2
      have p := ((Turn.refl (fun _ => False) w).alloc (.cells (rowOf u8s [z]).toArray 45) : Pure w (w.alloc (.cells (rowOf u8s [z]).toArray 45)))
      refine ⟨v0, .slice (some ⟨w.heap.size, 0, none⟩) 1 1, v2, v3, v4, v5, v6, v7, by simp only [AP], hP.trans p (fun _ _ e => e), (fun h => (f0 (set_other h (by decide))).pure p), (fun _ => ⟨_, rfl, hP.size, heap_alloc_new _ _⟩), (fun h => not_got hu (f2 (set_other h (by decide))).2.1), (fun h => not_got hu (f2 (f3 (set_other h (by decide))).1).2.1), (fun h => (f4 (set_other h (by decide))).pure p), (fun h => (f5 (set_other h (by decide))).pure p), (fun h => not_got hu (f2 (f3 (f6 (set_other h (by decide))).1).1).2.1), (fun h => by obtain ⟨b, q1, q2, q3, q4⟩ := f7 (set_other h (by decide)); exact ⟨b, q1, q2, fun h8 => p.obj (q3 (by rwa [getD_set_ne false (by decide)] at h8)) (fun e => e), (fun h8 => not_got hu (have q6 := (q4 (set_other h8 (by decide))).1; (f2 (f3 (f6 q6).1).1).2.1))⟩), (fun h => getD_set_true (f8 (set_other h (by decide))))⟩
    · obtain rfl := Option.some.inj (show some _ = some o from ho)
      have hz := HZ.out
      subst hz
      obtain ⟨b0, rfl, l0, h0⟩ := f0 (hd 0 (by kernel_rfl))
      obtain ⟨b1, rfl, l1, h1⟩ := f1 (hd 1 (by kernel_rfl))
      subst hA
      simp only [AP]
      go_wp2
      have p := (Turn.refl (fun _ => False) w)
      refine ⟨.slice (some ⟨b0, 0, none⟩) 1 1, .slice (some ⟨b1, 0, none⟩) 1 1, _, v3, v4, v5, v6, v7, rfl, hP.trans p (fun _ _ e => e), (fun h => (f0 (set_other h (by decide))).pure p), (fun h => (f1 (set_other h (by decide))).pure p), (fun _ => ⟨getD_set_true (hd 0 (by kernel_rfl)), getD_set_true (hd 1 (by kernel_rfl)), rfl⟩), (fun h => not_got hu (f3 (set_other h (by decide))).1), (fun h => (f4 (set_other h (by decide))).pure p), (fun h => (f5 (set_other h (by decide))).pure p), (fun h => not_got hu (f3 (f6 (set_other h (by decide))).1).1), (fun h => by obtain ⟨b, q1, q2, q3, q4⟩ := f7 (set_other h (by decide)); exact ⟨b, q1, q2, fun h8 => p.obj (q3 (by rwa [getD_set_ne false (by decide)] at h8)) (fun e => e), (fun h8 => not_got hu (have q6 := (q4 (set_other h8 (by decide))).1; (f3 (f6 q6).1).1))⟩), (fun h => getD_set_true (f8 (set_other h (by decide))))⟩
    · obtain rfl := Option.some.inj (show some _ = some o from ho)
      obtain ⟨_, _, rfl⟩ := f2 (hd 2 (by kernel_rfl))
      subst hA
      simp only [AP]
      go_wp2_with (refine wpList_buildSlice_one rfl 22 47 _ rfl iN _ 37 (entC (E0 z v0 v1)) Try.underlying22 HIN.out hzN hszN (by decide) (by decide) rfl (entC_length hzl) ?_)
      have p := ((Turn.refl (fun _ => False) w).alloc (.cells (entC (E0 z v0 v1)).toArray 47) : Pure w (w.alloc (.cells (entC (E0 z v0 v1)).toArray 47)))
      refine ⟨v0, v1, .agg (entC (E0 z v0 v1)).toArray, .slice (some ⟨w.heap.size, 0, none⟩) 1 1, v4, v5, v6, v7, by simp only [AP], hP.trans p (fun _ _ e => e), (fun h => (f0 (set_other h (by decide))).pure p), (fun h => (f1 (set_other h (by decide))).pure p), (fun h => have q := f2 (set_other h (by decide)); ⟨getD_set_true q.1, getD_set_true q.2.1, rfl⟩), (fun _ => ⟨getD_set_true (hd 2 (by kernel_rfl)), _, rfl, hP.size, heap_alloc_new _ _⟩), (fun h => (f4 (set_other h (by decide))).pure p), (fun h => (f5 (set_other h (by decide))).pure p), (fun h => not_got hu (f6 (set_other h (by decide))).1), (fun h => by obtain ⟨b, q1, q2, q3, q4⟩ := f7 (set_other h (by decide)); exact ⟨b, q1, q2, fun h8 => p.obj (q3 (by rwa [getD_set_ne false (by decide)] at h8)) (fun e => e), (fun h8 => not_got hu (have q6 := (q4 (set_other h8 (by decide))).1; (f6 q6).1))⟩), (fun h => getD_set_true (f8 (set_other h (by decide))))⟩
    · obtain rfl := Option.some.inj (show some _ = some o from ho)
      subst hA
      simp only [AP]
      go_wp2
      have p := ((Turn.refl (fun _ => False) w).alloc (.cells (rowOf u8s [z, z]).toArray 45) : Pure w (w.alloc (.cells (rowOf u8s [z, z]).toArray 45)))
      refine ⟨v0, v1, v2, v3, .slice (some ⟨w.heap.size, 0, none⟩) 2 2, v5, v6, v7, by simp only [AP], hP.trans p (fun _ _ e => e), (fun h => (f0 (set_other h (by decide))).pure p), (fun h => (f1 (set_other h (by decide))).pure p), (fun h => have q := f2 (set_other h (by decide)); ⟨getD_set_true q.1, getD_set_true q.2.1, q.2.2⟩), (fun h => have q := f3 (set_other h (by decide)); ⟨getD_set_true q.1, q.2.pure p⟩), (fun _ => ⟨_, rfl, hP.size, heap_alloc_new _ _⟩), (fun h => (f5 (set_other h (by decide))).pure p), (fun h => not_got hu (f6 (set_other h (by decide))).2.1), (fun h => by obtain ⟨b, q1, q2, q3, q4⟩ := f7 (set_other h (by decide)); exact ⟨b, q1, q2, fun h8 => p.obj (q3 (by rwa [getD_set_ne false (by decide)] at h8)) (fun e => e), (fun h8 => not_got hu (have q6 := (q4 (set_other h8 (by decide))).1; (f6 q6).2.1))⟩), (fun h => getD_set_true (f8 (set_other h (by decide))))⟩
    · obtain rfl := Option.some.inj (show some _ = some o from ho)
      subst hA
      simp only [AP]
      go_wp2
      have p := ((Turn.refl (fun _ => False) w).alloc (.cells #[.string (bstr [97])] 9) : Pure w (w.alloc (.cells #[.string (bstr [97])] 9)))
      refine ⟨v0, v1, v2, v3, v4, .slice (some ⟨w.heap.size, 0, none⟩) 1 1, v6, v7, by simp only [AP], hP.trans p (fun _ _ e => e), (fun h => (f0 (set_other h (by decide))).pure p), (fun h => (f1 (set_other h (by decide))).pure p), (fun h => have q := f2 (set_other h (by decide)); ⟨getD_set_true q.1, getD_set_true q.2.1, q.2.2⟩), (fun h => have q := f3 (set_other h (by decide)); ⟨getD_set_true q.1, q.2.pure p⟩), (fun h => (f4 (set_other h (by decide))).pure p), (fun _ => ⟨_, rfl, hP.size, heap_alloc_new _ _⟩), (fun h => not_got hu (f6 (set_other h (by decide))).2.2.1), (fun h => by obtain ⟨b, q1, q2, q3, q4⟩ := f7 (set_other h (by decide)); exact ⟨b, q1, q2, fun h8 => p.obj (q3 (by rwa [getD_set_ne false (by decide)] at h8)) (fun e => e), (fun h8 => not_got hu (have q6 := (q4 (set_other h8 (by decide))).1; (f6 q6).2.2.1))⟩), (fun h => getD_set_true (f8 (set_other h (by decide))))⟩
    · obtain rfl := Option.some.inj (show some _ = some o from ho)
      obtain ⟨b3, rfl, l3, h3⟩ := (f3 (hd 3 (by kernel_rfl))).2
      obtain ⟨b4, rfl, l4, h4⟩ := f4 (hd 4 (by kernel_rfl))
      obtain ⟨b5, rfl, l5, h5⟩ := f5 (hd 5 (by kernel_rfl))
      subst hA
      simp only [AP]
      go_wp2
      have p := (Turn.refl (fun _ => False) w)
      refine ⟨v0, v1, v2, .slice (some ⟨b3, 0, none⟩) 1 1, .slice (some ⟨b4, 0, none⟩) 2 2, .slice (some ⟨b5, 0, none⟩) 1 1, _, v7, rfl, hP.trans p (fun _ _ e => e), (fun h => (f0 (set_other h (by decide))).pure p), (fun h => (f1 (set_other h (by decide))).pure p), (fun h => have q := f2 (set_other h (by decide)); ⟨getD_set_true q.1, getD_set_true q.2.1, q.2.2⟩), (fun h => have q := f3 (set_other h (by decide)); ⟨getD_set_true q.1, q.2.pure p⟩), (fun h => (f4 (set_other h (by decide))).pure p), (fun h => (f5 (set_other h (by decide))).pure p), (fun _ => ⟨getD_set_true (hd 3 (by kernel_rfl)), getD_set_true (hd 4 (by kernel_rfl)), getD_set_true (hd 5 (by kernel_rfl)), rfl⟩), (fun h => by obtain ⟨b, q1, q2, q3, q4⟩ := f7 (set_other h (by decide)); exact ⟨b, q1, q2, fun h8 => p.obj (q3 (by rwa [getD_set_ne false (by decide)] at h8)) (fun e => e), (fun h8 => not_got hu (have q6 := (q4 (set_other h8 (by decide))).1; q6))⟩), (fun h => getD_set_true (f8 (set_other h (by decide))))⟩
    · obtain rfl := Option.some.inj (show some _ = some o from ho)
      subst hA
      simp only [AP]
      go_wp2_with (refine wpList_allocZ rfl 26 rfl _ HZM.out ?_)
      intro g w9 e9 c9 t9 s9
      have p := t9
      refine ⟨v0, v1, v2, v3, v4, v5, v6, .pointer (some ⟨g, 0, none⟩), by simp only [AP], hP.trans p (fun _ _ e => e), (fun h => (f0 (set_other h (by decide))).pure p), (fun h => (f1 (set_other h (by decide))).pure p), (fun h => have q := f2 (set_other h (by decide)); ⟨getD_set_true q.1, getD_set_true q.2.1, q.2.2⟩), (fun h => have q := f3 (set_other h (by decide)); ⟨getD_set_true q.1, q.2.pure p⟩), (fun h => (f4 (set_other h (by decide))).pure p), (fun h => (f5 (set_other h (by decide))).pure p), (fun h => have q := f6 (set_other h (by decide)); ⟨getD_set_true q.1, getD_set_true q.2.1, getD_set_true q.2.2.1, q.2.2.2⟩), (fun _ => ⟨g, rfl, by have := hP.size; omega, fun _ => c9, fun h8 => not_got hu (f8 (set_other h8 (by decide)))⟩), (fun h => not_got hu (f8 (set_other h (by decide))))⟩
    · obtain rfl := Option.some.inj (show some _ = some o from ho)
      obtain ⟨g, rfl, lg, hz0, _⟩ := f7 (hd 7 (by kernel_rfl))
      have hz0 := hz0 (by cases hh : l.getD 8 false with | false => rfl | true => exact not_got hu hh)
      obtain ⟨_, _, _, rfl⟩ := f6 (hd 6 (by kernel_rfl))
      have f30 := (f3 (f6 (hd 6 (by kernel_rfl))).1).2
      obtain ⟨b3, hb3, _, _⟩ := f30
      obtain ⟨b4, hb4, _, _⟩ := f4 (f6 (hd 6 (by kernel_rfl))).2.1
      obtain ⟨b5, hb5, _, _⟩ := f5 (f6 (hd 6 (by kernel_rfl))).2.2.1
      have hone : ∀ v ∈ msgC (M0 z v0 v1 v3 v4 v5), v.oneCell' = true := by
        intro v hv
        simp only [msgC, M0, List.mem_cons, List.mem_nil_iff, or_false] at hv
        rcases hv with rfl | rfl | rfl | rfl | rfl | rfl
        · rfl
        · rfl
        · rfl
        · rw [hb3]; rfl
        · rw [hb4]; rfl
        · rw [hb5]; rfl
      clear hb3 hb4 hb5
      subst hA
      simp only [AP]
      go_wp2_with (refine wpList_store_blk rfl 26 _ _ rfl g _ (msgC (M0 z v0 v1 v3 v4 v5)) _ rfl rfl hz0 (by rw [List.size_toArray, HZL]; rfl) (by rw [infoM]; rfl) hone ?_)
      intro w9 c9 t9 s9
      refine ⟨v0, v1, _, v3, v4, v5, _, .pointer (some ⟨g, 0, none⟩), rfl, hP.newer t9 lg, (fun h => (f0 (set_other h (by decide))).store t9 hz0 (by intro hh; injection hh with _ h2; exact absurd h2 (by decide))), (fun h => (f1 (set_other h (by decide))).store t9 hz0 (by intro hh; injection hh with _ h2; exact absurd h2 (by decide))), (fun h => have q := f2 (set_other h (by decide)); ⟨getD_set_true q.1, getD_set_true q.2.1, by first | rfl | exact q.2.2⟩), (fun h => have q := f3 (set_other h (by decide)); ⟨getD_set_true q.1, q.2.store t9 hz0 (by intro hh; injection hh with _ h2; exact absurd h2 (by decide))⟩), (fun h => (f4 (set_other h (by decide))).store t9 hz0 (by intro hh; injection hh with _ h2; exact absurd h2 (by decide))), (fun h => (f5 (set_other h (by decide))).store t9 hz0 (by intro hh; injection hh with _ h2; exact absurd h2 (by decide))), (fun h => have q := f6 (set_other h (by decide)); ⟨getD_set_true q.1, getD_set_true q.2.1, getD_set_true q.2.2.1, rfl⟩), (fun _ => ⟨g, rfl, lg, (fun h8 => by rw [set_self hu hls] at h8; cases h8), fun _ => ⟨getD_set_true (hd 6 (by kernel_rfl)), c9⟩⟩), (fun _ => getD_set_true (hd 7 (by kernel_rfl)))⟩
  case refine_3 =>
    intro l a w hl hF
    obtain ⟨v0, v1, v2, v3, v4, v5, v6, v7, hA, hP, f0, f1, f2, f3, f4, f5, f6, f7, f8⟩ := hF
    obtain ⟨b0, rfl, l0, h0⟩ := f0 (hl 0 (by decide))
    obtain ⟨b1, rfl, l1, h1⟩ := f1 (hl 1 (by decide))
    obtain ⟨_, b3, rfl, l3, h3⟩ := f3 (hl 3 (by decide))
    obtain ⟨b4, rfl, l4, h4⟩ := f4 (hl 4 (by decide))
    obtain ⟨b5, rfl, l5, h5⟩ := f5 (hl 5 (by decide))
    obtain ⟨g, rfl, lg, _, hg⟩ := f7 (hl 7 (by decide))
    have hg := (hg (hl 8 (by decide))).2
    clear f0 f1 f2 f3 f4 f5 f6 f7 f8 hl
    subst hA
    simp only [AP]
    have PT := Lib.hid (PT.out.trans hP (fun _ _ e => e))
    have nb0 := ne_types h0 hg (by decide); have nb1 := ne_types h1 hg (by decide); have nb3 := ne_types h3 hg (by decide); have nb4 := ne_types h4 hg (by decide); have nb5 := ne_types h5 hg (by decide)
    have n03 := ne_types h0 h3 (by decide); have n13 := ne_types h1 h3 (by decide); have n43 := ne_types h4 h3 (by decide); have n53 := ne_types h5 h3 (by decide)
    have n05 := ne_types h0 h5 (by decide); have n15 := ne_types h1 h5 (by decide); have n45 := ne_types h4 h5 (by decide)
    have hea : EntAt w (E0 z (.slice (some ⟨b0, 0, none⟩) 1 1) (.slice (some ⟨b1, 0, none⟩) 1 1)) := by
      refine ⟨⟨_, 1, rfl, Nat.le_refl _, (show ([1] : List Int).length ≤ 17592186044416 from by decide), (fun h => by cases h), fun i y hy => ?_⟩, ⟨_, 1, rfl, Nat.le_refl _, fun _ => ⟨_, 0, rfl, range_of_row h1⟩, fun t ht => ?_⟩, hzl⟩
      · obtain ⟨rfl, rfl⟩ : i = 0 ∧ y = 1 := by
          match i, hy with
          | 0, hy => exact ⟨rfl, (Option.some.inj hy).symm⟩
        exact ⟨by decide, by decide, b0, 0, rfl, by rw [cell_of_row w b0 _ _ _ _ h0]; rfl⟩
      · rw [show t = z from List.mem_singleton.1 ht, u8s_length, hzl]
    have HEA := Lib.hid hea; have H0 := Lib.hid h0; have H1 := Lib.hid h1; have H3 := Lib.hid h3; have H4 := Lib.hid h4; have H5 := Lib.hid h5; have D := Lib.hid hg
    obtain ⟨S0, hS0⟩ : ∃ S, S = Value.slice (some ⟨b0, 0, none⟩) 1 1 := ⟨_, rfl⟩
    obtain ⟨S1, hS1⟩ : ∃ S, S = Value.slice (some ⟨b1, 0, none⟩) 1 1 := ⟨_, rfl⟩
    clear hea h0 h1 h3 h4 h5 hg
    rw [← hS0, ← hS1] at HEA H3 D
    have HS := Lib.hid (And.intro hS0 hS1)
    clear hS0 hS1
    have hents : ∀ W E, W.heap[b3]? = some (Obj.cells (entC E).toArray 47 (0, 0)) → EntAt W E → E.p.sign.length = 0 → EntsAt W (.slice (some ⟨b3, 0, none⟩) 1 1) [E] := fun W E hW hE hs => by
      refine ⟨⟨_, 1, rfl, Nat.le_refl _, fun _ => ⟨_, 0, rfl, ?_⟩, fun y hy => ?_⟩, fun y hy => ?_, (show 1 ≤ _ from by decide)⟩
      · rw [show rowOf entC [E] = entC E by simp [rowOf]]; exact range_of_row hW
      · rw [List.mem_singleton.1 hy]; exact entC_length hE.root
      · rw [List.mem_singleton.1 hy]; exact ⟨hE, by omega⟩
    have hwan : ∀ W, W.heap[b4]? = some (Obj.cells (rowOf u8s [z, z]).toArray 45 (0, 0)) → Rows u8s 32 W (.slice (some ⟨b4, 0, none⟩) 2 2) [z, z] := fun W hW =>
      ⟨_, 2, rfl, Nat.le_refl _, fun _ => ⟨_, 0, rfl, range_of_row hW⟩, fun t ht => by rw [u8s_length]; simp at ht; rw [ht]; exact hzl⟩
    have hobj : ∀ W t, W.heap[b5]? = some (Obj.cells #[.string (bstr t)] 9 (0, 0)) → Rows txtC 1 W (.slice (some ⟨b5, 0, none⟩) 1 1) [t] := fun W t hW =>
      ⟨_, 1, rfl, Nat.le_refl _, fun _ => ⟨_, 0, rfl, range_of_row (l := rowOf txtC [t]) hW⟩, fun _ _ => rfl⟩
    have HENTS := Lib.hid hents; have HWAN := Lib.hid hwan; have HOBJ := Lib.hid hobj
    have hat : ∀ W (k u f : Int), Pure w W ∨ Turn (fun k => k = g) w W → MsgAt W ⟨⟨k, u, f, [(E0 z S0 S1).p], [z, z], [[97]]⟩, [E0 z S0 S1], .slice (some ⟨b3, 0, none⟩) 1 1, .slice (some ⟨b4, 0, none⟩) 2 2, .slice (some ⟨b5, 0, none⟩) 1 1⟩ := fun W k u f ht => by
      have ht : Turn (fun k => k = g) w W := ht.elim (fun h => h.mono fun _ _ e => e.elim) id
      have hE : EntAt W (E0 z S0 S1) := HEA.out.turn ht (by rintro q (h | h) rfl <;> simp [E0, HS.out.1, HS.out.2, Value.ownBlock] at h <;> omega)
      exact ⟨hents W _ (ht.obj H3.out nb3) hE rfl, rfl, hwan W (ht.obj H4.out nb4), by simp, hobj W _ (ht.obj H5.out nb5), by simp, fun t ht => by simp at ht; rw [ht]; decide⟩
    have HAT := Lib.hid hat
    obtain ⟨H, hH, hand⟩ := and63 x
    obtain ⟨d, hd⟩ : ∃ d, d = H + 1 := ⟨_, rfl⟩
    have i1 : IntKind.i64.wrap (1 + (H : Int)) = (d : Int) := by rw [IntWalk.i64_in _ (by omega)]; omega
    have hd1 : 1 ≤ d := by omega
    have hd64 : d ≤ 64 := by omega
    obtain ⟨c, hc, hrem0⟩ := rem_at wh 11 (by omega)
    have hrem : (IntKind.u64.wrap wh).tmod 11 = (c : Int) := hrem0
    clear hrem0
    have hp := mPut_any w (M0 z S0 S1 (.slice (some ⟨b3, 0, none⟩) 1 1) (.slice (some ⟨b4, 0, none⟩) 2 2) (.slice (some ⟨b5, 0, none⟩) 1 1)) (hat w 2 1 0 (.inl (Turn.refl _ _)))
    rw [show (M0 z S0 S1 (.slice (some ⟨b3, 0, none⟩) 1 1) (.slice (some ⟨b4, 0, none⟩) 2 2) (.slice (some ⟨b5, 0, none⟩) 1 1)).p = P0 z from rfl, mput_ok (show mayM (P0 z) = true by rw [HZ.out]; exact p0)] at hp
    have HP := Lib.hid hp
    clear hents hwan hobj hat hp hd hH
    have R := range_of_row D.out
    go_wp2_with (refine wpList_load_mid rfl 26 _ rfl g 0 rfl (msgC (M0 z S0 S1 (.slice (some ⟨b3, 0, none⟩) 1 1) (.slice (some ⟨b4, 0, none⟩) 2 2) (.slice (some ⟨b5, 0, none⟩) 1 1))) _ R Try.underlying26 rfl infoM ?_)
    refine HP.out.mono ?_
    rintro e w5 ⟨rfl, t5⟩
    clear R HP i1 hand
    have T5 := Lib.hid t5; have D := Lib.hid (t5.obj D.out (fun e => e)); have PT := Lib.hid (PT.out.pure t5)
    clear t5
    have HLG := Lib.hid (Nat.le_trans HW01.out lg)
    rcases (by omega : c = 0 ∨ c = 1 ∨ c = 2 ∨ c = 3 ∨ c = 4 ∨ c = 5 ∨ c = 6 ∨ c = 7 ∨ c = 8 ∨ c = 9 ∨ c = 10) with rfl | rfl | rfl | rfl | rfl | rfl | rfl | rfl | rfl | rfl | rfl
    · have hr : (IntKind.u64.wrap wh).tmod 11 = 0 := hrem
      clear hrem
      have iw : IntKind.i64.wrap (-(d : Int)) = -(d : Int) := IntWalk.i64_in _ (by omega)
      go_wp2_with (refine wpList_store_cs rfl 3 _ _ rfl g 0 (.int .i64 (-(d : Int))) [.int .i64 (-(d : Int))] _ _ rfl rfl rfl D.out (by simp only [msgC, List.length_cons, List.length_nil]; omega) (by kernel_rfl) (one_mem rfl) (msgC (⟨⟨(-(d : Int)), 1, 0, [(E0 z S0 S1).p], [z, z], [[97]]⟩, [E0 z S0 S1], .slice (some ⟨b3, 0, none⟩) 1 1, .slice (some ⟨b4, 0, none⟩) 2 2, .slice (some ⟨b5, 0, none⟩) 1 1⟩ : Msg)) rfl ?_)
      intro w9 c9 t9 s9
      have D := Lib.hid c9; have PT := Lib.hid (PT.out.newer t9 HLG.out)
      have AT : Hid (MsgAt w9 (⟨⟨(-(d : Int)), 1, 0, [(E0 z S0 S1).p], [z, z], [[97]]⟩, [E0 z S0 S1], .slice (some ⟨b3, 0, none⟩) 1 1, .slice (some ⟨b4, 0, none⟩) 2 2, .slice (some ⟨b5, 0, none⟩) 1 1⟩ : Msg)) := Lib.hid (HAT.out w9 _ _ _ (.inr ((T5.out.mono fun _ _ e => e.elim).trans t9 fun _ _ e => e)))
      clear c9 t9 s9 iw
      have hput := mPut_any _ (⟨⟨(-(d : Int)), 1, 0, [(E0 z S0 S1).p], [z, z], [[97]]⟩, [E0 z S0 S1], .slice (some ⟨b3, 0, none⟩) 1 1, .slice (some ⟨b4, 0, none⟩) 2 2, .slice (some ⟨b5, 0, none⟩) 1 1⟩ : Msg) AT.out
      rw [mput_no (may_kind (by unfold numOk; simp; omega))] at hput
      have HPUT := Lib.hid hput
      have R := range_of_row D.out
      clear hput
      go_wp2_with (refine wpList_load_mid rfl 26 _ rfl g 0 rfl (msgC (⟨⟨(-(d : Int)), 1, 0, [(E0 z S0 S1).p], [z, z], [[97]]⟩, [E0 z S0 S1], .slice (some ⟨b3, 0, none⟩) 1 1, .slice (some ⟨b4, 0, none⟩) 2 2, .slice (some ⟨b5, 0, none⟩) 1 1⟩ : Msg)) _ R Try.underlying26 rfl infoM ?_)
      refine HPUT.out.mono ?_
      rintro e w10 ⟨rfl, t10⟩
      have PT := Lib.hid (PT.out.pure t10)
      clear t10 R HPUT
      go_wp2_with fail
      refine (Num_any _ _).mono ?_
      rintro e w11 ⟨rfl, rfl⟩
      go_wp2_with fail
      refine (Num_any _ _).mono ?_
      rintro e w12 ⟨rfl, rfl⟩
      go_wp2
      go_ret
      exact ⟨rfl, PT.out⟩
    · have hr : (IntKind.u64.wrap wh).tmod 11 = 1 := hrem
      clear hrem
      have iw : IntKind.i64.wrap (6 + (d : Int)) = 6 + (d : Int) := IntWalk.i64_in _ (by omega)
      go_wp2_with (refine wpList_store_cs rfl 3 _ _ rfl g 0 (.int .i64 (6 + (d : Int))) [.int .i64 (6 + (d : Int))] _ _ rfl rfl rfl D.out (by simp only [msgC, List.length_cons, List.length_nil]; omega) (by kernel_rfl) (one_mem rfl) (msgC (⟨⟨(6 + (d : Int)), 1, 0, [(E0 z S0 S1).p], [z, z], [[97]]⟩, [E0 z S0 S1], .slice (some ⟨b3, 0, none⟩) 1 1, .slice (some ⟨b4, 0, none⟩) 2 2, .slice (some ⟨b5, 0, none⟩) 1 1⟩ : Msg)) rfl ?_)
      intro w9 c9 t9 s9
      have D := Lib.hid c9; have PT := Lib.hid (PT.out.newer t9 HLG.out)
      have AT : Hid (MsgAt w9 (⟨⟨(6 + (d : Int)), 1, 0, [(E0 z S0 S1).p], [z, z], [[97]]⟩, [E0 z S0 S1], .slice (some ⟨b3, 0, none⟩) 1 1, .slice (some ⟨b4, 0, none⟩) 2 2, .slice (some ⟨b5, 0, none⟩) 1 1⟩ : Msg)) := Lib.hid (HAT.out w9 _ _ _ (.inr ((T5.out.mono fun _ _ e => e.elim).trans t9 fun _ _ e => e)))
      clear c9 t9 s9 iw
      have hput := mPut_any _ (⟨⟨(6 + (d : Int)), 1, 0, [(E0 z S0 S1).p], [z, z], [[97]]⟩, [E0 z S0 S1], .slice (some ⟨b3, 0, none⟩) 1 1, .slice (some ⟨b4, 0, none⟩) 2 2, .slice (some ⟨b5, 0, none⟩) 1 1⟩ : Msg) AT.out
      rw [mput_no (may_kind (by unfold numOk; simp; omega))] at hput
      have HPUT := Lib.hid hput
      have R := range_of_row D.out
      clear hput
      go_wp2_with (refine wpList_load_mid rfl 26 _ rfl g 0 rfl (msgC (⟨⟨(6 + (d : Int)), 1, 0, [(E0 z S0 S1).p], [z, z], [[97]]⟩, [E0 z S0 S1], .slice (some ⟨b3, 0, none⟩) 1 1, .slice (some ⟨b4, 0, none⟩) 2 2, .slice (some ⟨b5, 0, none⟩) 1 1⟩ : Msg)) _ R Try.underlying26 rfl infoM ?_)
      refine HPUT.out.mono ?_
      rintro e w10 ⟨rfl, t10⟩
      have PT := Lib.hid (PT.out.pure t10)
      clear t10 R HPUT
      go_wp2_with fail
      refine (Num_any _ _).mono ?_
      rintro e w11 ⟨rfl, rfl⟩
      go_wp2_with fail
      refine (Num_any _ _).mono ?_
      rintro e w12 ⟨rfl, rfl⟩
      go_wp2
      go_ret
      exact ⟨rfl, PT.out⟩
    · have hr : (IntKind.u64.wrap wh).tmod 11 = 2 := hrem
      clear hrem
      have iw : IntKind.i64.wrap (-(d : Int)) = -(d : Int) := IntWalk.i64_in _ (by omega)
      go_wp2_with (refine wpList_store_cs rfl 3 _ _ rfl g 1 (.int .i64 (-(d : Int))) [.int .i64 (-(d : Int))] _ _ rfl rfl rfl D.out (by simp only [msgC, List.length_cons, List.length_nil]; omega) (by kernel_rfl) (one_mem rfl) (msgC (⟨⟨2, (-(d : Int)), 0, [(E0 z S0 S1).p], [z, z], [[97]]⟩, [E0 z S0 S1], .slice (some ⟨b3, 0, none⟩) 1 1, .slice (some ⟨b4, 0, none⟩) 2 2, .slice (some ⟨b5, 0, none⟩) 1 1⟩ : Msg)) rfl ?_)
      intro w9 c9 t9 s9
      have D := Lib.hid c9; have PT := Lib.hid (PT.out.newer t9 HLG.out)
      have AT : Hid (MsgAt w9 (⟨⟨2, (-(d : Int)), 0, [(E0 z S0 S1).p], [z, z], [[97]]⟩, [E0 z S0 S1], .slice (some ⟨b3, 0, none⟩) 1 1, .slice (some ⟨b4, 0, none⟩) 2 2, .slice (some ⟨b5, 0, none⟩) 1 1⟩ : Msg)) := Lib.hid (HAT.out w9 _ _ _ (.inr ((T5.out.mono fun _ _ e => e.elim).trans t9 fun _ _ e => e)))
      clear c9 t9 s9 iw
      have hput := mPut_any _ (⟨⟨2, (-(d : Int)), 0, [(E0 z S0 S1).p], [z, z], [[97]]⟩, [E0 z S0 S1], .slice (some ⟨b3, 0, none⟩) 1 1, .slice (some ⟨b4, 0, none⟩) 2 2, .slice (some ⟨b5, 0, none⟩) 1 1⟩ : Msg) AT.out
      rw [mput_no (may_rest (by unfold restM; rw [show numOk _ 255 = false by unfold numOk; simp; omega]; simp))] at hput
      have HPUT := Lib.hid hput
      have R := range_of_row D.out
      clear hput
      go_wp2_with (refine wpList_load_mid rfl 26 _ rfl g 0 rfl (msgC (⟨⟨2, (-(d : Int)), 0, [(E0 z S0 S1).p], [z, z], [[97]]⟩, [E0 z S0 S1], .slice (some ⟨b3, 0, none⟩) 1 1, .slice (some ⟨b4, 0, none⟩) 2 2, .slice (some ⟨b5, 0, none⟩) 1 1⟩ : Msg)) _ R Try.underlying26 rfl infoM ?_)
      refine HPUT.out.mono ?_
      rintro e w10 ⟨rfl, t10⟩
      have PT := Lib.hid (PT.out.pure t10)
      clear t10 R HPUT
      go_wp2_with fail
      refine (Num_any _ _).mono ?_
      rintro e w11 ⟨rfl, rfl⟩
      go_wp2_with fail
      refine (Num_any _ _).mono ?_
      rintro e w12 ⟨rfl, rfl⟩
      go_wp2
      go_ret
      exact ⟨rfl, PT.out⟩
    · have hr : (IntKind.u64.wrap wh).tmod 11 = 3 := hrem
      clear hrem
      have iw : IntKind.i64.wrap (255 + (d : Int)) = 255 + (d : Int) := IntWalk.i64_in _ (by omega)
      go_wp2_with (refine wpList_store_cs rfl 3 _ _ rfl g 1 (.int .i64 (255 + (d : Int))) [.int .i64 (255 + (d : Int))] _ _ rfl rfl rfl D.out (by simp only [msgC, List.length_cons, List.length_nil]; omega) (by kernel_rfl) (one_mem rfl) (msgC (⟨⟨2, (255 + (d : Int)), 0, [(E0 z S0 S1).p], [z, z], [[97]]⟩, [E0 z S0 S1], .slice (some ⟨b3, 0, none⟩) 1 1, .slice (some ⟨b4, 0, none⟩) 2 2, .slice (some ⟨b5, 0, none⟩) 1 1⟩ : Msg)) rfl ?_)
      intro w9 c9 t9 s9
      have D := Lib.hid c9; have PT := Lib.hid (PT.out.newer t9 HLG.out)
      have AT : Hid (MsgAt w9 (⟨⟨2, (255 + (d : Int)), 0, [(E0 z S0 S1).p], [z, z], [[97]]⟩, [E0 z S0 S1], .slice (some ⟨b3, 0, none⟩) 1 1, .slice (some ⟨b4, 0, none⟩) 2 2, .slice (some ⟨b5, 0, none⟩) 1 1⟩ : Msg)) := Lib.hid (HAT.out w9 _ _ _ (.inr ((T5.out.mono fun _ _ e => e.elim).trans t9 fun _ _ e => e)))
      clear c9 t9 s9 iw
      have hput := mPut_any _ (⟨⟨2, (255 + (d : Int)), 0, [(E0 z S0 S1).p], [z, z], [[97]]⟩, [E0 z S0 S1], .slice (some ⟨b3, 0, none⟩) 1 1, .slice (some ⟨b4, 0, none⟩) 2 2, .slice (some ⟨b5, 0, none⟩) 1 1⟩ : Msg) AT.out
      rw [mput_no (may_rest (by unfold restM; rw [show numOk _ 255 = false by unfold numOk; simp; omega]; simp))] at hput
      have HPUT := Lib.hid hput
      have R := range_of_row D.out
      clear hput
      go_wp2_with (refine wpList_load_mid rfl 26 _ rfl g 0 rfl (msgC (⟨⟨2, (255 + (d : Int)), 0, [(E0 z S0 S1).p], [z, z], [[97]]⟩, [E0 z S0 S1], .slice (some ⟨b3, 0, none⟩) 1 1, .slice (some ⟨b4, 0, none⟩) 2 2, .slice (some ⟨b5, 0, none⟩) 1 1⟩ : Msg)) _ R Try.underlying26 rfl infoM ?_)
      refine HPUT.out.mono ?_
      rintro e w10 ⟨rfl, t10⟩
      have PT := Lib.hid (PT.out.pure t10)
      clear t10 R HPUT
      go_wp2_with fail
      refine (Num_any _ _).mono ?_
      rintro e w11 ⟨rfl, rfl⟩
      go_wp2_with fail
      refine (Num_any _ _).mono ?_
      rintro e w12 ⟨rfl, rfl⟩
      go_wp2
      go_ret
      exact ⟨rfl, PT.out⟩
    · have hr : (IntKind.u64.wrap wh).tmod 11 = 4 := hrem
      clear hrem
      have iw : IntKind.i64.wrap (-(d : Int)) = -(d : Int) := IntWalk.i64_in _ (by omega)
      go_wp2_with (refine wpList_store_cs rfl 3 _ _ rfl g 2 (.int .i64 (-(d : Int))) [.int .i64 (-(d : Int))] _ _ rfl rfl rfl D.out (by simp only [msgC, List.length_cons, List.length_nil]; omega) (by kernel_rfl) (one_mem rfl) (msgC (⟨⟨2, 1, (-(d : Int)), [(E0 z S0 S1).p], [z, z], [[97]]⟩, [E0 z S0 S1], .slice (some ⟨b3, 0, none⟩) 1 1, .slice (some ⟨b4, 0, none⟩) 2 2, .slice (some ⟨b5, 0, none⟩) 1 1⟩ : Msg)) rfl ?_)
      intro w9 c9 t9 s9
      have D := Lib.hid c9; have PT := Lib.hid (PT.out.newer t9 HLG.out)
      have AT : Hid (MsgAt w9 (⟨⟨2, 1, (-(d : Int)), [(E0 z S0 S1).p], [z, z], [[97]]⟩, [E0 z S0 S1], .slice (some ⟨b3, 0, none⟩) 1 1, .slice (some ⟨b4, 0, none⟩) 2 2, .slice (some ⟨b5, 0, none⟩) 1 1⟩ : Msg)) := Lib.hid (HAT.out w9 _ _ _ (.inr ((T5.out.mono fun _ _ e => e.elim).trans t9 fun _ _ e => e)))
      clear c9 t9 s9 iw
      have hput := mPut_any _ (⟨⟨2, 1, (-(d : Int)), [(E0 z S0 S1).p], [z, z], [[97]]⟩, [E0 z S0 S1], .slice (some ⟨b3, 0, none⟩) 1 1, .slice (some ⟨b4, 0, none⟩) 2 2, .slice (some ⟨b5, 0, none⟩) 1 1⟩ : Msg) AT.out
      rw [mput_no (may_rest (by unfold restM; rw [show numOk _ 65535 = false by unfold numOk; simp; omega]; simp))] at hput
      have HPUT := Lib.hid hput
      have R := range_of_row D.out
      clear hput
      go_wp2_with (refine wpList_load_mid rfl 26 _ rfl g 0 rfl (msgC (⟨⟨2, 1, (-(d : Int)), [(E0 z S0 S1).p], [z, z], [[97]]⟩, [E0 z S0 S1], .slice (some ⟨b3, 0, none⟩) 1 1, .slice (some ⟨b4, 0, none⟩) 2 2, .slice (some ⟨b5, 0, none⟩) 1 1⟩ : Msg)) _ R Try.underlying26 rfl infoM ?_)
      refine HPUT.out.mono ?_
      rintro e w10 ⟨rfl, t10⟩
      have PT := Lib.hid (PT.out.pure t10)
      clear t10 R HPUT
      go_wp2_with fail
      refine (Num_any _ _).mono ?_
      rintro e w11 ⟨rfl, rfl⟩
      go_wp2_with fail
      refine (Num_any _ _).mono ?_
      rintro e w12 ⟨rfl, rfl⟩
      go_wp2
      go_ret
      exact ⟨rfl, PT.out⟩
    · have hr : (IntKind.u64.wrap wh).tmod 11 = 5 := hrem
      clear hrem
      have iw : IntKind.i64.wrap (65535 + (d : Int)) = 65535 + (d : Int) := IntWalk.i64_in _ (by omega)
      go_wp2_with (refine wpList_store_cs rfl 3 _ _ rfl g 2 (.int .i64 (65535 + (d : Int))) [.int .i64 (65535 + (d : Int))] _ _ rfl rfl rfl D.out (by simp only [msgC, List.length_cons, List.length_nil]; omega) (by kernel_rfl) (one_mem rfl) (msgC (⟨⟨2, 1, (65535 + (d : Int)), [(E0 z S0 S1).p], [z, z], [[97]]⟩, [E0 z S0 S1], .slice (some ⟨b3, 0, none⟩) 1 1, .slice (some ⟨b4, 0, none⟩) 2 2, .slice (some ⟨b5, 0, none⟩) 1 1⟩ : Msg)) rfl ?_)
      intro w9 c9 t9 s9
      have D := Lib.hid c9; have PT := Lib.hid (PT.out.newer t9 HLG.out)
      have AT : Hid (MsgAt w9 (⟨⟨2, 1, (65535 + (d : Int)), [(E0 z S0 S1).p], [z, z], [[97]]⟩, [E0 z S0 S1], .slice (some ⟨b3, 0, none⟩) 1 1, .slice (some ⟨b4, 0, none⟩) 2 2, .slice (some ⟨b5, 0, none⟩) 1 1⟩ : Msg)) := Lib.hid (HAT.out w9 _ _ _ (.inr ((T5.out.mono fun _ _ e => e.elim).trans t9 fun _ _ e => e)))
      clear c9 t9 s9 iw
      have hput := mPut_any _ (⟨⟨2, 1, (65535 + (d : Int)), [(E0 z S0 S1).p], [z, z], [[97]]⟩, [E0 z S0 S1], .slice (some ⟨b3, 0, none⟩) 1 1, .slice (some ⟨b4, 0, none⟩) 2 2, .slice (some ⟨b5, 0, none⟩) 1 1⟩ : Msg) AT.out
      rw [mput_no (may_rest (by unfold restM; rw [show numOk _ 65535 = false by unfold numOk; simp; omega]; simp))] at hput
      have HPUT := Lib.hid hput
      have R := range_of_row D.out
      clear hput
      go_wp2_with (refine wpList_load_mid rfl 26 _ rfl g 0 rfl (msgC (⟨⟨2, 1, (65535 + (d : Int)), [(E0 z S0 S1).p], [z, z], [[97]]⟩, [E0 z S0 S1], .slice (some ⟨b3, 0, none⟩) 1 1, .slice (some ⟨b4, 0, none⟩) 2 2, .slice (some ⟨b5, 0, none⟩) 1 1⟩ : Msg)) _ R Try.underlying26 rfl infoM ?_)
      refine HPUT.out.mono ?_
      rintro e w10 ⟨rfl, t10⟩
      have PT := Lib.hid (PT.out.pure t10)
      clear t10 R HPUT
      go_wp2_with fail
      refine (Num_any _ _).mono ?_
      rintro e w11 ⟨rfl, rfl⟩
      go_wp2_with fail
      refine (Num_any _ _).mono ?_
      rintro e w12 ⟨rfl, rfl⟩
      go_wp2
      go_ret
      exact ⟨rfl, PT.out⟩
    · have hr : (IntKind.u64.wrap wh).tmod 11 = 6 := hrem
      clear hrem
      have k3 : w5.cell? ⟨g, 3, none⟩ = some (.slice (some ⟨b3, 0, none⟩) 1 1) := (msg_at D.out).2.2.2.1
      have B3 := Lib.hid (T5.out.obj H3.out (fun e => e))
      go_wp2_with (refine wpList_store_cs rfl 3 _ _ rfl b3 1 (.int .i64 0) [.int .i64 0] _ _ rfl rfl rfl B3.out (by have hln := entC_length (e := E0 z S0 S1) hzl; simp only [List.length_cons, List.length_nil]; omega) (by kernel_rfl) (one_mem rfl) (entC (⟨⟨0, 0, [1], z, [z], []⟩, S0, S1⟩ : Ent)) (ent_set1 0 1 [1] z [z] [] S0 S1 0) ?_)
      intro w9 c9 t9 s9
      have D := Lib.hid (t9.obj D.out (Ne.symm nb3)); have PT := Lib.hid (PT.out.newer t9 (Nat.le_trans HW01.out l3))
      have hE1 : EntAt w9 (⟨⟨0, 0, [1], z, [z], []⟩, S0, S1⟩ : Ent) := by
        have hh : EntAt w9 (E0 z S0 S1) := (HEA.out.pure T5.out).turn t9 (by rintro q (h | h) rfl <;> simp [E0, HS.out.1, HS.out.2, Value.ownBlock] at h <;> omega)
        exact ⟨hh.vec, hh.tab, hh.root⟩
      have AT : Hid (MsgAt w9 (⟨⟨2, 1, 0, [(⟨⟨0, 0, [1], z, [z], []⟩, S0, S1⟩ : Ent).p], [z, z], [[97]]⟩, [(⟨⟨0, 0, [1], z, [z], []⟩, S0, S1⟩ : Ent)], .slice (some ⟨b3, 0, none⟩) 1 1, .slice (some ⟨b4, 0, none⟩) 2 2, .slice (some ⟨b5, 0, none⟩) 1 1⟩ : Msg)) := Lib.hid (by exact ⟨HENTS.out w9 _ c9 hE1 rfl, rfl, HWAN.out w9 (t9.obj (T5.out.obj H4.out (fun e => e)) n43), by simp, HOBJ.out w9 _ (t9.obj (T5.out.obj H5.out (fun e => e)) n53), by simp, (fun t ht => by simp at ht; rw [ht]; decide)⟩)
      have HK6 := Lib.hid (mayE_seq0 (e := (⟨⟨0, 0, [1], z, [z], []⟩, S0, S1⟩ : Ent).p) rfl)
      clear c9 t9 s9 hE1 k3 B3
      have hput := mPut_any _ (⟨⟨2, 1, 0, [(⟨⟨0, 0, [1], z, [z], []⟩, S0, S1⟩ : Ent).p], [z, z], [[97]]⟩, [(⟨⟨0, 0, [1], z, [z], []⟩, S0, S1⟩ : Ent)], .slice (some ⟨b3, 0, none⟩) 1 1, .slice (some ⟨b4, 0, none⟩) 2 2, .slice (some ⟨b5, 0, none⟩) 1 1⟩ : Msg) AT.out
      rw [mput_no (may_rest (by unfold restM; simp only [List.all_cons, HK6.out, Bool.false_and, Bool.and_false]))] at hput
      have HPUT := Lib.hid hput
      have R := range_of_row D.out
      clear hput
      go_wp2_with (refine wpList_load_mid rfl 26 _ rfl g 0 rfl (msgC (⟨⟨2, 1, 0, [(⟨⟨0, 0, [1], z, [z], []⟩, S0, S1⟩ : Ent).p], [z, z], [[97]]⟩, [(⟨⟨0, 0, [1], z, [z], []⟩, S0, S1⟩ : Ent)], .slice (some ⟨b3, 0, none⟩) 1 1, .slice (some ⟨b4, 0, none⟩) 2 2, .slice (some ⟨b5, 0, none⟩) 1 1⟩ : Msg)) _ R Try.underlying26 rfl infoM ?_)
      refine HPUT.out.mono ?_
      rintro e w10 ⟨rfl, t10⟩
      have PT := Lib.hid (PT.out.pure t10)
      clear t10 R HPUT
      go_wp2_with fail
      refine (Num_any _ _).mono ?_
      rintro e w11 ⟨rfl, rfl⟩
      go_wp2_with fail
      refine (Num_any _ _).mono ?_
      rintro e w12 ⟨rfl, rfl⟩
      go_wp2
      go_ret
      exact ⟨rfl, PT.out⟩
    · have hr : (IntKind.u64.wrap wh).tmod 11 = 7 := hrem
      clear hrem
      obtain ⟨n, hn⟩ : ∃ n, n = 255 + d := ⟨_, rfl⟩
      have iw : IntKind.i64.wrap (255 + (d : Int)) = (n : Int) := by rw [IntWalk.i64_in _ (by omega)]; omega
      have hmk := fun W => make28n W n (by omega)
      have hn1 : 255 < n := by omega
      have hn2 : n ≤ 400 := by omega
      obtain ⟨CN, hCN⟩ : ∃ c, c = rowOf u8s (List.replicate n (List.replicate 32 0)) := ⟨_, rfl⟩
      rw [← hCN] at hmk
      have hA : Pure w5 (w5.alloc (.cells CN.toArray 45)) := (Turn.refl _ _).alloc _
      have hnb := heap_alloc_new w5 (.cells CN.toArray 45)
      have hgs : w5.heap.size ≠ g := by have := (Array.getElem?_eq_some_iff.1 D.out).1; omega
      have D := Lib.hid (hA.obj D.out (fun e => e)); have HNB := Lib.hid hnb; have HA := Lib.hid hA; have HCN := Lib.hid hCN
      clear hA hn hnb hCN
      go_wp2_with (refine wpList_store_cs rfl 23 _ _ rfl g 4 (.slice (some ⟨w5.heap.size, 0, none⟩) n n) [.slice (some ⟨w5.heap.size, 0, none⟩) n n] _ _ rfl rfl rfl D.out (by simp only [msgC, List.length_cons, List.length_nil]; omega) (by kernel_rfl) (one_mem rfl) _ rfl ?_)
      intro w9 c9 t9 s9
      have PT := Lib.hid ((PT.out.pure HA.out).newer t9 HLG.out)
      have HNB := Lib.hid (t9.obj HNB.out hgs)
      have HT9 := Lib.hid (((T5.out.trans HA.out fun _ _ e => e).mono (S' := fun k => k = g) fun _ _ e => e.elim).trans t9 fun _ _ e => e)
      generalize w5.heap.size = gn at *
      have D : Hid (w9.heap[g]? = some (.cells (msgC (⟨⟨2, 1, 0, [(E0 z S0 S1).p], List.replicate n (List.replicate 32 0), [[97]]⟩, [E0 z S0 S1], .slice (some ⟨b3, 0, none⟩) 1 1, .slice (some ⟨gn, 0, none⟩) n n, .slice (some ⟨b5, 0, none⟩) 1 1⟩ : Msg)).toArray 26 (0, 0))) := Lib.hid c9
      rw [HCN.out] at HNB
      have hE9 : EntAt w9 (E0 z S0 S1) := HEA.out.turn HT9.out (by rintro q (h | h) rfl <;> simp [E0, HS.out.1, HS.out.2, Value.ownBlock] at h <;> omega)
      have AT : Hid (MsgAt w9 (⟨⟨2, 1, 0, [(E0 z S0 S1).p], List.replicate n (List.replicate 32 0), [[97]]⟩, [E0 z S0 S1], .slice (some ⟨b3, 0, none⟩) 1 1, .slice (some ⟨gn, 0, none⟩) n n, .slice (some ⟨b5, 0, none⟩) 1 1⟩ : Msg)) := Lib.hid (by exact ⟨HENTS.out w9 _ (HT9.out.obj H3.out nb3) hE9 rfl, rfl, ⟨_, n, by simp, by simp, fun _ => ⟨_, 0, rfl, range_of_row HNB.out⟩, fun t ht => by rw [u8s_length, (List.mem_replicate.1 ht).2]; rfl⟩, by simp; omega, HOBJ.out w9 _ (HT9.out.obj H5.out nb5), by simp, (fun t ht => by simp at ht; rw [ht]; decide)⟩)
      clear c9 t9 s9 iw hmk hE9 HT9 HNB HA
      have hput := mPut_any _ (⟨⟨2, 1, 0, [(E0 z S0 S1).p], List.replicate n (List.replicate 32 0), [[97]]⟩, [E0 z S0 S1], .slice (some ⟨b3, 0, none⟩) 1 1, .slice (some ⟨gn, 0, none⟩) n n, .slice (some ⟨b5, 0, none⟩) 1 1⟩ : Msg) AT.out
      rw [mput_no (may_rest (by unfold restM; simp only [List.length_replicate]; rw [decide_eq_false (by omega : ¬ n ≤ 255)]; simp))] at hput
      have HPUT := Lib.hid hput
      have R := range_of_row D.out
      clear hput
      go_wp2_with (refine wpList_load_mid rfl 26 _ rfl g 0 rfl (msgC (⟨⟨2, 1, 0, [(E0 z S0 S1).p], List.replicate n (List.replicate 32 0), [[97]]⟩, [E0 z S0 S1], .slice (some ⟨b3, 0, none⟩) 1 1, .slice (some ⟨gn, 0, none⟩) n n, .slice (some ⟨b5, 0, none⟩) 1 1⟩ : Msg)) _ R Try.underlying26 rfl infoM ?_)
      refine HPUT.out.mono ?_
      rintro e w10 ⟨rfl, t10⟩
      have PT := Lib.hid (PT.out.pure t10)
      clear t10 R HPUT
      go_wp2_with fail
      refine (Num_any _ _).mono ?_
      rintro e w11 ⟨rfl, rfl⟩
      go_wp2_with fail
      refine (Num_any _ _).mono ?_
      rintro e w12 ⟨rfl, rfl⟩
      go_wp2
      go_ret
      exact ⟨rfl, PT.out⟩
    · have hr : (IntKind.u64.wrap wh).tmod 11 = 8 := hrem
      clear hrem
      obtain ⟨n, hn⟩ : ∃ n, n = 255 + d := ⟨_, rfl⟩
      have iw : IntKind.i64.wrap (255 + (d : Int)) = (n : Int) := by rw [IntWalk.i64_in _ (by omega)]; omega
      have hmk := fun W => makeTn W n (by omega)
      have hn1 : 255 < n := by omega
      have hn2 : n ≤ 400 := by omega
      obtain ⟨CN, hCN⟩ : ∃ c, c = rowOf txtC (List.replicate n []) := ⟨_, rfl⟩
      rw [← hCN] at hmk
      have hA : Pure w5 (w5.alloc (.cells CN.toArray 9)) := (Turn.refl _ _).alloc _
      have hnb := heap_alloc_new w5 (.cells CN.toArray 9)
      have hgs : w5.heap.size ≠ g := by have := (Array.getElem?_eq_some_iff.1 D.out).1; omega
      have D := Lib.hid (hA.obj D.out (fun e => e)); have HNB := Lib.hid hnb; have HA := Lib.hid hA; have HCN := Lib.hid hCN
      clear hA hn hnb hCN
      go_wp2_with (refine wpList_store_cs rfl 24 _ _ rfl g 5 (.slice (some ⟨w5.heap.size, 0, none⟩) n n) [.slice (some ⟨w5.heap.size, 0, none⟩) n n] _ _ rfl rfl rfl D.out (by simp only [msgC, List.length_cons, List.length_nil]; omega) (by kernel_rfl) (one_mem rfl) _ rfl ?_)
      intro w9 c9 t9 s9
      have PT := Lib.hid ((PT.out.pure HA.out).newer t9 HLG.out)
      have HNB := Lib.hid (t9.obj HNB.out hgs)
      have HT9 := Lib.hid (((T5.out.trans HA.out fun _ _ e => e).mono (S' := fun k => k = g) fun _ _ e => e.elim).trans t9 fun _ _ e => e)
      generalize w5.heap.size = gn at *
      have D : Hid (w9.heap[g]? = some (.cells (msgC (⟨⟨2, 1, 0, [(E0 z S0 S1).p], [z, z], List.replicate n []⟩, [E0 z S0 S1], .slice (some ⟨b3, 0, none⟩) 1 1, .slice (some ⟨b4, 0, none⟩) 2 2, .slice (some ⟨gn, 0, none⟩) n n⟩ : Msg)).toArray 26 (0, 0))) := Lib.hid c9
      rw [HCN.out] at HNB
      have hE9 : EntAt w9 (E0 z S0 S1) := HEA.out.turn HT9.out (by rintro q (h | h) rfl <;> simp [E0, HS.out.1, HS.out.2, Value.ownBlock] at h <;> omega)
      have AT : Hid (MsgAt w9 (⟨⟨2, 1, 0, [(E0 z S0 S1).p], [z, z], List.replicate n []⟩, [E0 z S0 S1], .slice (some ⟨b3, 0, none⟩) 1 1, .slice (some ⟨b4, 0, none⟩) 2 2, .slice (some ⟨gn, 0, none⟩) n n⟩ : Msg)) := Lib.hid (by exact ⟨HENTS.out w9 _ (HT9.out.obj H3.out nb3) hE9 rfl, rfl, HWAN.out w9 (HT9.out.obj H4.out nb4), by simp, ⟨_, n, by simp, by simp, fun _ => ⟨_, 0, rfl, range_of_row HNB.out⟩, fun t ht => rfl⟩, by simp; omega, (fun t ht => by rw [(List.mem_replicate.1 ht).2]; simp)⟩)
      clear c9 t9 s9 iw hmk hE9 HT9 HNB HA
      have hput := mPut_any _ (⟨⟨2, 1, 0, [(E0 z S0 S1).p], [z, z], List.replicate n []⟩, [E0 z S0 S1], .slice (some ⟨b3, 0, none⟩) 1 1, .slice (some ⟨b4, 0, none⟩) 2 2, .slice (some ⟨gn, 0, none⟩) n n⟩ : Msg) AT.out
      rw [mput_no (may_rest (by unfold restM; simp only [List.length_replicate]; rw [decide_eq_false (by omega : ¬ n ≤ 255)]; simp))] at hput
      have HPUT := Lib.hid hput
      have R := range_of_row D.out
      clear hput
      go_wp2_with (refine wpList_load_mid rfl 26 _ rfl g 0 rfl (msgC (⟨⟨2, 1, 0, [(E0 z S0 S1).p], [z, z], List.replicate n []⟩, [E0 z S0 S1], .slice (some ⟨b3, 0, none⟩) 1 1, .slice (some ⟨b4, 0, none⟩) 2 2, .slice (some ⟨gn, 0, none⟩) n n⟩ : Msg)) _ R Try.underlying26 rfl infoM ?_)
      refine HPUT.out.mono ?_
      rintro e w10 ⟨rfl, t10⟩
      have PT := Lib.hid (PT.out.pure t10)
      clear t10 R HPUT
      go_wp2_with fail
      refine (Num_any _ _).mono ?_
      rintro e w11 ⟨rfl, rfl⟩
      go_wp2_with fail
      refine (Num_any _ _).mono ?_
      rintro e w12 ⟨rfl, rfl⟩
      go_wp2
      go_ret
      exact ⟨rfl, PT.out⟩
    · have hr : (IntKind.u64.wrap wh).tmod 11 = 9 := hrem
      clear hrem
      obtain ⟨m, hm⟩ : ∃ m : Nat, m = 65363 := ⟨_, rfl⟩
      have hmi : (65363 : Int) = (m : Int) := by rw [hm]; rfl
      have hmk : ∀ w : World, (Instr.makeSlice 48 (.int .i64 65363) (.int .i64 65363)).run Try.prog w = .ok (.slice (some ⟨w.heap.size, 0, none⟩) m m) (w.alloc (.cells (u8s (List.replicate m 0)).toArray 5)) := fun w => by rw [hmi]; exact make_u8 w m (by omega)
      have HM := Lib.hid hm
      clear hm hmi
      go_wp2_with fail
      refine wp_region_G (S := fun w' => Pure w5 w' ∧ Held [(g, Obj.cells (msgC (M0 z S0 S1 (.slice (some ⟨b3, 0, none⟩) 1 1) (.slice (some ⟨b4, 0, none⟩) 2 2) (.slice (some ⟨b5, 0, none⟩) 1 1))).toArray 26 (0, 0))] w') (T := NewTwo 90 118 m 1 w5.heap.size (Obj.cells (u8s (List.replicate m 0)).toArray 5 (0, 0)) (Obj.cells (u8s (List.replicate m 0)).toArray 5 (0, 0))) (by kernel_rfl) ⟨(Turn.refl _ _).drew, held_cons (show w5.drew.heap[_]? = _ from D.out) (held_nil _)⟩ ⟨(fun g h hB => nomatch h), (fun g h hB => nomatch h)⟩ ?_
      have HG := Grow.heldTwo w5 [(g, Obj.cells (msgC (M0 z S0 S1 (.slice (some ⟨b3, 0, none⟩) 1 1) (.slice (some ⟨b4, 0, none⟩) 2 2) (.slice (some ⟨b5, 0, none⟩) 1 1))).toArray 26 (0, 0))] 90 118 m 1 w5.heap.size (Obj.cells (u8s (List.replicate m 0)).toArray 5 (0, 0)) (Obj.cells (u8s (List.replicate m 0)).toArray 5 (0, 0))
      refine atN 0 ?_
      iterate 2
        refine anyG_y HG (v := ?_) rfl (by kernel_rfl) (fun _ _ _ h => h) (NewTwo.ins (by decide) (by decide)) (Or.inl ⟨by rfl, fun w hSw => ?_⟩) ?_
        rotate_left
        · skip
          have c5 := (msg_at (m := M0 z S0 S1 (.slice (some ⟨b3, 0, none⟩) 1 1) (.slice (some ⟨b4, 0, none⟩) 2 2) (.slice (some ⟨b5, 0, none⟩) 1 1)) (show w.heap[g]? = _ from hSw.2.head)).2.2.2.2.2
          simp only [M0] at c5
          first | (go_simp; done) | (go_simp; with_reducible rfl)
        simp only [Nat.reduceAdd, AP]
      refine anyG_new HG (i := 2) (s := 90) (n := m) (o := Obj.cells (u8s (List.replicate m 0)).toArray 5 (0, 0)) (by kernel_rfl) rfl (by rfl) rfl (fun w h => h.1.size) (fun w hS hT => ?_) (fun w hS hT => hT.one (by simp) (by decide) (heap_alloc_new _ _)) (fun gn lgn => ?_)
      · have hm1 := hmk w
        first | (go_simp; done) | (go_simp; with_reducible rfl)
      simp only [Act.put, List.setIfInBounds_toArray, List.set_cons_zero, List.set_cons_succ]
      refine anyG_val (i := 3) (s := 91) (v := .string (bstr (List.replicate m 0))) (by kernel_rfl) rfl (by rfl) rfl (fun w hS hT => ?_) (NewTwo.ins (by decide) (by decide)) ?_
      · have hb := hT.1 gn rfl lgn
        have hcv := conv_block (P := Try.prog) w 48 5 9 5 (0, 0) Try.underlying48 Try.underlying5 Try.underlying9 gn m (List.replicate m 0) m (by simp) hb
        first | (go_simp; done) | (go_simp; with_reducible rfl)
      simp only [Act.put, List.setIfInBounds_toArray, List.set_cons_zero, List.set_cons_succ]
      refine anyG_tail [4, 5] (k := 4) (by kernel_rfl) (fun w6 hS hT => ?_)
      simp only [List.filterMap_cons, List.filterMap_nil, List.getElem?_toArray, List.getElem?_cons_succ, List.getElem?_cons_zero]
      obtain ⟨hpS, hS⟩ := hS
      have D := Lib.hid hS.head
      have PT := Lib.hid (PT.out.pure hpS)
      have HT6 := Lib.hid (T5.out.pure hpS)
      have B5 := Lib.hid (HT6.out.obj H5.out (fun e => e))
      clear HG hS hT hpS hmk
      obtain ⟨c9, t9, s9⟩ := setOne (v := .string (bstr (List.replicate m 0))) B5.out
      obtain ⟨kc, kf⟩ := cell_one B5.out
      obtain ⟨w9, hw9⟩ : ∃ w9, w9 = w6.setCell ⟨b5, 0, none⟩ (.string (bstr (List.replicate m 0))) := ⟨_, rfl⟩
      rw [← hw9] at c9 t9 s9
      have HW9 := Lib.hid hw9
      clear hw9
      have D := Lib.hid (t9.obj D.out (Ne.symm nb5)); have PT := Lib.hid (PT.out.newer t9 (Nat.le_trans HW01.out l5)); have B5 := Lib.hid c9
      have HT9 : Hid (Turn (fun k => k = b5) w w9) := Lib.hid ((HT6.out.mono fun _ _ e => e.elim).trans t9 fun _ _ e => e)
      obtain ⟨n, hn⟩ : ∃ n, n = 100 + d := ⟨_, rfl⟩
      have iw : IntKind.i64.wrap (100 + (d : Int)) = (n : Int) := by rw [IntWalk.i64_in _ (by omega)]; omega
      have hn1 : 100 < n := by omega
      have hn2 : n ≤ 70000 := by omega
      have hmk := fun W => make_u8 W n (by omega)
      clear hn c9 t9 s9
      go_wp2_with fail
      rw [← HW9.out]
      clear kc kf
      refine wp_region_G (S := fun w' => Pure w9 w' ∧ Held [(g, Obj.cells (msgC (M0 z S0 S1 (.slice (some ⟨b3, 0, none⟩) 1 1) (.slice (some ⟨b4, 0, none⟩) 2 2) (.slice (some ⟨b5, 0, none⟩) 1 1))).toArray 26 (0, 0)), (b5, Obj.cells #[.string (bstr (List.replicate m 0))] 9 (0, 0))] w') (T := NewTwo 97 99 n 1 w9.heap.size (Obj.cells (u8s (List.replicate n 0)).toArray 5 (0, 0)) (Obj.cells #[.string (bstr (List.replicate n 0))] 9 (0, 0))) (by kernel_rfl) ⟨(Turn.refl _ _).drew, held_cons (show w9.drew.heap[_]? = _ from D.out) (held_cons (show w9.drew.heap[_]? = _ from B5.out) (held_nil _))⟩ ⟨(fun g h hB => nomatch h), (fun g h hB => nomatch h)⟩ ?_
      have HG := Grow.heldTwo w9 [(g, Obj.cells (msgC (M0 z S0 S1 (.slice (some ⟨b3, 0, none⟩) 1 1) (.slice (some ⟨b4, 0, none⟩) 2 2) (.slice (some ⟨b5, 0, none⟩) 1 1))).toArray 26 (0, 0)), (b5, Obj.cells #[.string (bstr (List.replicate m 0))] 9 (0, 0))] 97 99 n 1 w9.heap.size (Obj.cells (u8s (List.replicate n 0)).toArray 5 (0, 0)) (Obj.cells #[.string (bstr (List.replicate n 0))] 9 (0, 0))
      refine atN 0 ?_
      iterate 4
        refine anyG_y HG (v := ?_) rfl (by kernel_rfl) (fun _ _ _ h => h) (NewTwo.ins (by decide) (by decide)) (Or.inl ⟨by rfl, fun w hSw => ?_⟩) ?_
        rotate_left
        · skip
          have c5 := (msg_at (m := M0 z S0 S1 (.slice (some ⟨b3, 0, none⟩) 1 1) (.slice (some ⟨b4, 0, none⟩) 2 2) (.slice (some ⟨b5, 0, none⟩) 1 1)) (show w.heap[g]? = _ from hSw.2.head)).2.2.2.2.2
          simp only [M0] at c5
          first | (go_simp; done) | (go_simp; with_reducible rfl)
        simp only [Nat.reduceAdd, AP]
      refine anyG_new HG (i := 4) (s := 97) (n := n) (o := Obj.cells (u8s (List.replicate n 0)).toArray 5 (0, 0)) (by kernel_rfl) rfl (by rfl) rfl (fun w h => h.1.size) (fun w hS hT => ?_) (fun w hS hT => hT.one (by simp) (by decide) (heap_alloc_new _ _)) (fun gn lgn => ?_)
      · have hm1 := hmk w
        first | (go_simp; done) | (go_simp; with_reducible rfl)
      simp only [Act.put, List.setIfInBounds_toArray, List.set_cons_zero, List.set_cons_succ]
      refine anyG_val (i := 5) (s := 98) (v := .string (bstr (List.replicate n 0))) (by kernel_rfl) rfl (by rfl) rfl (fun w hS hT => ?_) (NewTwo.ins (by decide) (by decide)) ?_
      · have hb := hT.1 gn rfl lgn
        have hcv := conv_block (P := Try.prog) w 48 5 9 5 (0, 0) Try.underlying48 Try.underlying5 Try.underlying9 gn n (List.replicate n 0) n (by simp) hb
        first | (go_simp; done) | (go_simp; with_reducible rfl)
      simp only [Act.put, List.setIfInBounds_toArray, List.set_cons_zero, List.set_cons_succ]
      refine anyG_new HG (i := 6) (s := 99) (n := 1) (o := Obj.cells #[.string (bstr (List.replicate n 0))] 9 (0, 0)) (by kernel_rfl) rfl (by rfl) rfl (fun w h => h.1.size) (fun w hS hT => ?_) (fun w hS hT => hT.two (by simp) (by decide) (heap_alloc_new _ _)) (fun g99 l99 => ?_)
      · first | (go_simp; done) | (go_simp; with_reducible rfl)
      simp only [Act.put, List.setIfInBounds_toArray, List.set_cons_zero, List.set_cons_succ]
      refine anyG_tail [7, 8, 9] (k := 7) (by kernel_rfl) (fun w12 hS hT => ?_)
      simp only [List.filterMap_cons, List.filterMap_nil, List.getElem?_toArray, List.getElem?_cons_succ, List.getElem?_cons_zero]
      obtain ⟨hpS, hS⟩ := hS
      have hrow := hT.2 g99 rfl l99
      have D := Lib.hid hS.head; have B5 := Lib.hid hS.tail.head
      have PT := Lib.hid (PT.out.pure hpS)
      have HT12 := Lib.hid (HT9.out.pure hpS)
      have HO : Hid (w12.ownsRow 0 9 1 (.slice (some ⟨b5, 0, none⟩) 1 1) 1 (rowOf txtC [List.replicate m 0])) := Lib.hid ⟨rfl, .inr ⟨b5, 1, _, rfl, Nat.zero_le _, B5.out, Nat.le_refl _, by decide, rfl, rfl⟩⟩
      have HSR : Hid (Src Try.prog 1 24 (.slice (some ⟨g99, 0, none⟩) 1 1) 1 (txtC (List.replicate n 0)) w12) := Lib.hid (Src.ofSlice _ Try.underlying24 _ _ _ _ rfl (fun q u hu => by rw [Addr.add_mid]; exact range_of_row (l := txtC (List.replicate n 0)) hrow q u hu) (fun v hv => by rcases List.mem_singleton.1 hv with rfl; rfl))
      have hgl : g < w12.heap.size := (Array.getElem?_eq_some_iff.1 D.out).1
      obtain ⟨iS, zS, HIS, hzS, hszS, hbyS, hzsS⟩ := partsS
      clear HG hS hT hpS hmk iw hrow
      refine wpList_append_turn w12 rfl _ _ 24 24 9 rfl iS _ 1 16 Try.underlying24 HIS.out hzS hszS hbyS hzsS _ _ _ rfl HO.out _ rfl 1 _ HSR.out (by decide) (by decide) ?_
      intro ao9 cp9 w13 o13 t13 b13
      have ht13 : Turn (fun k => k = b5) w12 w13 := t13.mono fun k _ e => (Option.some.inj e).symm
      have D := Lib.hid (ht13.obj D.out (Ne.symm nb5)); have PT := Lib.hid (PT.out.newer ht13 (Nat.le_trans HW01.out l5)); have HT13 := Lib.hid (HT12.out.trans ht13 fun _ _ e => e)
      have hrow := Rows.own (size := 1) (cells := txtC) (xs := [List.replicate m 0, List.replicate n 0]) (by decide) o13 (fun _ _ => rfl)
      have hng : ∀ q, (Value.slice ao9 2 cp9).ownBlock = some q → ¬ q = g := fun q hq e => by
        rcases b13.out with h | h
        · exact nb5 ((Option.some.inj (show some b5 = some q from h.symm.trans hq)).trans e)
        · have h9 : w12.heap.size = q := Option.some.inj (show some w12.heap.size = some q from h.symm.trans hq)
          omega
      have HROW := Lib.hid hrow; have HNG := Lib.hid hng
      clear o13 t13 b13 ht13 hrow hng HO HSR
      obtain ⟨c14, t14, s14⟩ := setAt (i := 5) (v := .slice ao9 2 cp9) D.out (show 5 < 6 by omega)
      have kc : w13.cell? ⟨g, 5, none⟩ = some (.slice (some ⟨b5, 0, none⟩) 1 1) := (msg_at D.out).2.2.2.2.2
      have kf := frozen_of_row w13 g 5 _ _ D.out
      obtain ⟨w14, hw14⟩ : ∃ w14, w14 = w13.setCell ⟨g, 5, none⟩ (.slice ao9 2 cp9) := ⟨_, rfl⟩
      rw [← hw14] at c14 t14 s14
      have HW9 := Lib.hid hw14
      clear hw14
      have D : Hid (w14.heap[g]? = some (.cells (msgC (⟨⟨2, 1, 0, [(E0 z S0 S1).p], [z, z], [List.replicate m 0, List.replicate n 0]⟩, [E0 z S0 S1], .slice (some ⟨b3, 0, none⟩) 1 1, .slice (some ⟨b4, 0, none⟩) 2 2, .slice ao9 2 cp9⟩ : Msg)).toArray 26 (0, 0))) := Lib.hid c14
      have PT := Lib.hid (PT.out.newer t14 HLG.out)
      have HTT : Hid (Turn (fun k => k = b5 ∨ k = g) w w14) := Lib.hid ((HT13.out.mono fun _ _ e => .inl e).trans t14 fun _ _ e => .inr e)
      have hE9 : EntAt w14 (E0 z S0 S1) := HEA.out.turn HTT.out (by rintro q (h | h) (rfl | rfl) <;> simp [E0, HS.out.1, HS.out.2, Value.ownBlock] at h <;> omega)
      have AT : Hid (MsgAt w14 (⟨⟨2, 1, 0, [(E0 z S0 S1).p], [z, z], [List.replicate m 0, List.replicate n 0]⟩, [E0 z S0 S1], .slice (some ⟨b3, 0, none⟩) 1 1, .slice (some ⟨b4, 0, none⟩) 2 2, .slice ao9 2 cp9⟩ : Msg)) := Lib.hid (by exact ⟨HENTS.out w14 _ (HTT.out.obj H3.out (by omega)) hE9 rfl, rfl, HWAN.out w14 (HTT.out.obj H4.out (by omega)), by simp, HROW.out.turn t14 (fun _ q hq => HNG.out q hq), by simp, (fun t ht => by have := HM.out; simp at ht; rcases ht with rfl | rfl <;> simp <;> omega)⟩)
      clear c14 t14 s14 hE9 HTT HT13 HT12 HROW HNG
      have hput := mPut_any _ (⟨⟨2, 1, 0, [(E0 z S0 S1).p], [z, z], [List.replicate m 0, List.replicate n 0]⟩, [E0 z S0 S1], .slice (some ⟨b3, 0, none⟩) 1 1, .slice (some ⟨b4, 0, none⟩) 2 2, .slice ao9 2 cp9⟩ : Msg) AT.out
      rw [mput_no (may_len (by have := HM.out; simp only [msgB, headB, pieceB, List.length_append, List.flatMap_cons, List.flatMap_nil, List.length_replicate, beB_length, List.length_cons, List.length_nil, List.flatten_cons, List.flatten_nil, hzl]; omega))] at hput
      have HPUT := Lib.hid hput
      have R := range_of_row D.out
      clear hput
      go_wp2_with (refine wpList_load_mid rfl 26 _ rfl g 0 rfl (msgC (⟨⟨2, 1, 0, [(E0 z S0 S1).p], [z, z], [List.replicate m 0, List.replicate n 0]⟩, [E0 z S0 S1], .slice (some ⟨b3, 0, none⟩) 1 1, .slice (some ⟨b4, 0, none⟩) 2 2, .slice ao9 2 cp9⟩ : Msg)) _ (by rw [← HW9.out]; exact R) Try.underlying26 rfl infoM ?_)
      rw [← HW9.out]
      refine HPUT.out.mono ?_
      rintro e w10 ⟨rfl, t10⟩
      have PT := Lib.hid (PT.out.pure t10)
      clear t10 R HPUT
      go_wp2_with fail
      refine (Num_any _ _).mono ?_
      rintro e w11 ⟨rfl, rfl⟩
      go_wp2_with fail
      refine (Num_any _ _).mono ?_
      rintro e w12 ⟨rfl, rfl⟩
      go_wp2
      go_ret
      exact ⟨rfl, PT.out⟩
    · have hr : (IntKind.u64.wrap wh).tmod 11 = 10 := hrem
      clear hrem
      obtain ⟨n, hn⟩ : ∃ n, n = 65535 + d := ⟨_, rfl⟩
      have iw : IntKind.i64.wrap (65535 + (d : Int)) = (n : Int) := by rw [IntWalk.i64_in _ (by omega)]; omega
      have hn1 : 65535 < n := by omega
      have hn2 : n ≤ 70000 := by omega
      have hmk := fun W => make_u8 W n (by omega)
      clear hn
      go_wp2_with fail
      refine wp_region_G (S := fun w' => Pure w5 w' ∧ Held [(g, Obj.cells (msgC (M0 z S0 S1 (.slice (some ⟨b3, 0, none⟩) 1 1) (.slice (some ⟨b4, 0, none⟩) 2 2) (.slice (some ⟨b5, 0, none⟩) 1 1))).toArray 26 (0, 0))] w') (T := NewTwo 35 118 n 1 w5.heap.size (Obj.cells (u8s (List.replicate n 0)).toArray 5 (0, 0)) (Obj.cells (u8s (List.replicate n 0)).toArray 5 (0, 0))) (by kernel_rfl) ⟨(Turn.refl _ _).drew, held_cons (show w5.drew.heap[_]? = _ from D.out) (held_nil _)⟩ ⟨(fun g h hB => nomatch h), (fun g h hB => nomatch h)⟩ ?_
      have HG := Grow.heldTwo w5 [(g, Obj.cells (msgC (M0 z S0 S1 (.slice (some ⟨b3, 0, none⟩) 1 1) (.slice (some ⟨b4, 0, none⟩) 2 2) (.slice (some ⟨b5, 0, none⟩) 1 1))).toArray 26 (0, 0))] 35 118 n 1 w5.heap.size (Obj.cells (u8s (List.replicate n 0)).toArray 5 (0, 0)) (Obj.cells (u8s (List.replicate n 0)).toArray 5 (0, 0))
      refine atN 0 ?_
      iterate 4
        refine anyG_y HG (v := ?_) rfl (by kernel_rfl) (fun _ _ _ h => h) (NewTwo.ins (by decide) (by decide)) (Or.inl ⟨by rfl, fun w hSw => ?_⟩) ?_
        rotate_left
        · skip
          have c5 := (msg_at (m := M0 z S0 S1 (.slice (some ⟨b3, 0, none⟩) 1 1) (.slice (some ⟨b4, 0, none⟩) 2 2) (.slice (some ⟨b5, 0, none⟩) 1 1)) (show w.heap[g]? = _ from hSw.2.head)).2.2.2.2.2
          simp only [M0] at c5
          first | (go_simp; done) | (go_simp; with_reducible rfl)
        simp only [Nat.reduceAdd, AP]
      refine anyG_new HG (i := 4) (s := 35) (n := n) (o := Obj.cells (u8s (List.replicate n 0)).toArray 5 (0, 0)) (by kernel_rfl) rfl (by rfl) rfl (fun w h => h.1.size) (fun w hS hT => ?_) (fun w hS hT => hT.one (by simp) (by decide) (heap_alloc_new _ _)) (fun gn lgn => ?_)
      · have hm1 := hmk w
        first | (go_simp; done) | (go_simp; with_reducible rfl)
      simp only [Act.put, List.setIfInBounds_toArray, List.set_cons_zero, List.set_cons_succ]
      refine anyG_val (i := 5) (s := 36) (v := .string (bstr (List.replicate n 0))) (by kernel_rfl) rfl (by rfl) rfl (fun w hS hT => ?_) (NewTwo.ins (by decide) (by decide)) ?_
      · have hb := hT.1 gn rfl lgn
        have hcv := conv_block (P := Try.prog) w 48 5 9 5 (0, 0) Try.underlying48 Try.underlying5 Try.underlying9 gn n (List.replicate n 0) n (by simp) hb
        first | (go_simp; done) | (go_simp; with_reducible rfl)
      simp only [Act.put, List.setIfInBounds_toArray, List.set_cons_zero, List.set_cons_succ]
      refine anyG_tail [6, 7] (k := 6) (by kernel_rfl) (fun w6 hS hT => ?_)
      simp only [List.filterMap_cons, List.filterMap_nil, List.getElem?_toArray, List.getElem?_cons_succ, List.getElem?_cons_zero]
      obtain ⟨hpS, hS⟩ := hS
      have D := Lib.hid hS.head
      have PT := Lib.hid (PT.out.pure hpS)
      have HT6 := Lib.hid (T5.out.pure hpS)
      have B5 := Lib.hid (HT6.out.obj H5.out (fun e => e))
      clear HG hS hT hpS hmk iw
      obtain ⟨c9, t9, s9⟩ := setOne (v := .string (bstr (List.replicate n 0))) B5.out
      obtain ⟨kc, kf⟩ := cell_one B5.out
      obtain ⟨w9, hw9⟩ : ∃ w9, w9 = w6.setCell ⟨b5, 0, none⟩ (.string (bstr (List.replicate n 0))) := ⟨_, rfl⟩
      rw [← hw9] at c9 t9 s9
      have HW9 := Lib.hid hw9
      clear hw9
      have D := Lib.hid (t9.obj D.out (Ne.symm nb5)); have PT := Lib.hid (PT.out.newer t9 (Nat.le_trans HW01.out l5))
      have hE9 : EntAt w9 (E0 z S0 S1) := (HEA.out.pure HT6.out).turn t9 (by rintro q (h | h) rfl <;> simp [E0, HS.out.1, HS.out.2, Value.ownBlock] at h <;> omega)
      have AT : Hid (MsgAt w9 (⟨⟨2, 1, 0, [(E0 z S0 S1).p], [z, z], [List.replicate n 0]⟩, [E0 z S0 S1], .slice (some ⟨b3, 0, none⟩) 1 1, .slice (some ⟨b4, 0, none⟩) 2 2, .slice (some ⟨b5, 0, none⟩) 1 1⟩ : Msg)) := Lib.hid (by exact ⟨HENTS.out w9 _ (t9.obj (HT6.out.obj H3.out (fun e => e)) (Ne.symm n53)) hE9 rfl, rfl, HWAN.out w9 (t9.obj (HT6.out.obj H4.out (fun e => e)) n45), by simp, HOBJ.out w9 _ c9, by simp, (fun t ht => by simp at ht; rw [ht]; simp; omega)⟩)
      clear c9 t9 s9 hE9 B5 HT6
      have hput := mPut_any _ (⟨⟨2, 1, 0, [(E0 z S0 S1).p], [z, z], [List.replicate n 0]⟩, [E0 z S0 S1], .slice (some ⟨b3, 0, none⟩) 1 1, .slice (some ⟨b4, 0, none⟩) 2 2, .slice (some ⟨b5, 0, none⟩) 1 1⟩ : Msg) AT.out
      rw [mput_no (may_rest (by unfold restM; simp only [List.all_cons, List.length_replicate]; rw [decide_eq_false (by omega : ¬ n ≤ 65535)]; simp))] at hput
      have HPUT := Lib.hid hput
      have R := range_of_row D.out
      clear hput
      go_wp2_with (refine wpList_load_mid rfl 26 _ rfl g 0 rfl (msgC (⟨⟨2, 1, 0, [(E0 z S0 S1).p], [z, z], [List.replicate n 0]⟩, [E0 z S0 S1], .slice (some ⟨b3, 0, none⟩) 1 1, .slice (some ⟨b4, 0, none⟩) 2 2, .slice (some ⟨b5, 0, none⟩) 1 1⟩ : Msg)) _ (by rw [← HW9.out]; exact R) Try.underlying26 rfl infoM ?_)
      rw [← HW9.out]
      refine HPUT.out.mono ?_
      rintro e w10 ⟨rfl, t10⟩
      have PT := Lib.hid (PT.out.pure t10)
      clear t10 R HPUT
      go_wp2_with fail
      refine (Num_any _ _).mono ?_
      rintro e w11 ⟨rfl, rfl⟩
      go_wp2_with fail
      refine (Num_any _ _).mono ?_
      rintro e w12 ⟨rfl, rfl⟩
      go_wp2
      go_ret
      exact ⟨rfl, PT.out⟩
end Go.Proofs.Ytigkmdjdnkbdkaa
