/- Chapter 14: the laws ItabBack and ItabForms. -/
import Derived.Test.YthfekopimmgdmaaItab9
namespace Go.Proofs.Ythfekopimmgdmaa
open Go.RowKit

theorem and63 (x : Int) : ∃ H : Nat, H ≤ 63 ∧ bits .and .i64 x 63 = (H : Int) := by
  refine ⟨(BitVec.ofInt 64 x &&& BitVec.ofInt 64 63).toNat, ?_, ?_⟩
  · rw [BitVec.toNat_and]
    exact Nat.le_trans Nat.and_le_right (by decide)
  · have h : (BitVec.ofInt 64 x &&& BitVec.ofInt 64 63).toNat ≤ 63 := by
      rw [BitVec.toNat_and]
      exact Nat.le_trans Nat.and_le_right (by decide)
    show IntKind.i64.wrap (((BitVec.ofInt 64 x &&& BitVec.ofInt 64 63).toNat : Nat) : Int) = _
    exact IntWalk.i64_in _ (by omega)
theorem rem_at (x : Int) (k : Nat) (hk : 1 ≤ k) : ∃ a : Nat, a < k ∧ (IntKind.u64.wrap x).tmod (k : Int) = (a : Int) := by
  have h0 : 0 ≤ IntKind.u64.wrap x := by rw [IntKind.wrap_u64]; omega
  obtain ⟨y, hy⟩ : ∃ y : Nat, IntKind.u64.wrap x = (y : Int) := ⟨(IntKind.u64.wrap x).toNat, by omega⟩
  refine ⟨y % k, Nat.mod_lt _ (by omega), ?_⟩
  rw [hy, Int.tmod_eq_emod_of_nonneg (by omega)]
  omega


set_option maxRecDepth 100000 in
set_option maxHeartbeats 4000000 in
theorem ItabBack_any (w : World) (V : Value) (xs : List Ino) (s : List UInt8) (h : Rows inoC 37 w V xs) (hr : ∀ x ∈ xs, x.root.length = 32) (hlen : xs.length ≤ 1954687338211) (hs : s.length ≤ 140737488351232) :
    Calls Try.prog 4 #[V, .string (bstr s)] w fun e w' => e = .returned (.bool true) ∧ Pure w w' := by
  have HP1 := Lib.hid (fun W U (h : Rows inoC 37 W U xs) => Put_any W U xs h hr (by omega))
  have HM1 := Lib.hid (fun W U (h : Rows inoC 37 W U xs) => May_any W U xs h hr (by omega))
  have HG0 := Lib.hid (fun W => Get_any W s hs)
  have hgl : (getT s).1.length ≤ 255 := by
    unfold getT
    split
    · simp
    · split
      · simp only [tabD_length]; have := (s.getD 1 0).toNat_lt; omega
      · simp
  obtain ⟨GS, hgs⟩ : ∃ GS, GS = (getT s).1 := ⟨_, rfl⟩
  have hgc : (getT s = (GS, 0) ∧ putT GS = (s, 0) ∧ ∀ x ∈ GS, x.root.length = 32) ∨ getT s = ([], 1400) := by
    rcases getT_cases s with h | h
    · exact .inl ⟨by rw [hgs, ← h], by rw [hgs]; exact (putT_getT h).1, by rw [hgs]; exact (putT_getT h).2⟩
    · exact .inr h
  rw [← hgs] at hgl
  clear hgs
  have R0 := Lib.hid h
  have PT := Lib.hid (Turn.refl (fun _ => False) w)
  obtain ⟨ao, c, rfl, _⟩ := h.at_
  have hhr := hr
  clear h
  cases hb : tabB xs with
  | false =>
    rw [putT, if_neg (by rw [hb]; decide)] at HP1
    rw [hb] at HM1
    clear hhr hr hb
    go_enter Try.func4, Try.ntmps4
    go_wp2_with fail
    refine (awake14 _).mono ?_
    rintro e w0 ⟨rfl, t0⟩
    have PT := Lib.hid (PT.out.pure t0)
    have R0 := Lib.hid (R0.out.pure t0)
    clear t0
    go_wp2_with fail
    refine (HP1.out _ _ R0.out).mono ?_
    rintro e w1 ⟨rfl, t1⟩
    have PT := Lib.hid (PT.out.pure t1)
    have R0 := Lib.hid (R0.out.pure t1)
    clear t1
    go_wp2_with fail
    refine (Num_any _ _).mono ?_
    rintro e wn1 ⟨rfl, rfl⟩
    go_wp2_with fail
    refine (HM1.out _ _ R0.out).mono ?_
    rintro e w2 ⟨rfl, t2⟩
    have PT := Lib.hid (PT.out.pure t2)
    have R0 := Lib.hid (R0.out.pure t2)
    clear t2
    go_wp2_with fail
    refine (Num_any _ _).mono ?_
    rintro e wn2 ⟨rfl, rfl⟩
    rcases hgc with ⟨hg, hpt, hrt⟩ | hg
    · have HG1 : Hid (∀ W, Calls Try.prog 12 #[.string (bstr s)] W fun e w' => ∃ r, e = .returned (.tuple #[r, .int .i64 0]) ∧ Rows inoC 37 w' r GS ∧ Pure W w') := Lib.hid fun W => by
        have := HG0.out W
        rwa [hg] at this
      have HP2 : Hid (∀ W U, Rows inoC 37 W U GS → Calls Try.prog 10 #[U] W fun e w' => e = .returned (.tuple #[.string (bstr s), .int .i64 0]) ∧ Pure W w') := Lib.hid fun W U h => by
        have := Put_any W U GS h hrt (by omega)
        rwa [hpt] at this
      clear hg hpt hrt HG0
      go_wp2_with fail
      refine (HG1.out _).mono ?_
      rintro e w5 ⟨rc, rfl, RC, t5⟩
      have PT := Lib.hid (PT.out.pure t5); have RC := Lib.hid RC
      clear t5
      go_wp2_with fail
      refine (Num_any _ _).mono ?_
      rintro e wn3 ⟨rfl, rfl⟩
      go_wp2_with fail
      refine (HP2.out _ _ RC.out).mono ?_
      rintro e w6 ⟨rfl, t6⟩
      have PT := Lib.hid (PT.out.pure t6)
      clear t6
      go_wp2_with fail
      refine (Num_any _ _).mono ?_
      rintro e wn4 ⟨rfl, rfl⟩
      go_wp2
      go_ret
      exact ⟨rfl, PT.out⟩
    · have HG1 : Hid (∀ W, Calls Try.prog 12 #[.string (bstr s)] W fun e w' => ∃ r, e = .returned (.tuple #[r, .int .i64 1400]) ∧ Rows inoC 37 w' r [] ∧ Pure W w') := Lib.hid fun W => by
        have := Get_any W s hs
        rwa [hg] at this
      clear hg HG0
      go_wp2_with fail
      refine (HG1.out _).mono ?_
      rintro e w5 ⟨rc, rfl, RC, t5⟩
      have PT := Lib.hid (PT.out.pure t5)
      obtain ⟨cao, cc, rfl, _⟩ := RC.at_
      clear t5
      go_wp2_with fail
      refine (Num_any _ _).mono ?_
      rintro e wn3 ⟨rfl, rfl⟩
      go_wp2
      go_ret
      exact ⟨rfl, PT.out⟩
  | true =>
    rw [putT, if_pos hb] at HP1
    rw [hb] at HM1
    have hget := getT_tabE hr hb
    have hle := tabB_le hb
    have hTl : (tabE xs).length ≤ 2000 := by rw [tabE_length hr]; omega
    have HGA := Lib.hid (fun W => Get_any W (tabE xs) (by omega))
    rw [hget] at HGA
    have HSM := Lib.hid (fun W U U' (h : Rows inoC 37 W U xs) (k : Rows inoC 37 W U' xs) => SameInodes_any W U U' xs h k hhr (by omega))
    generalize tabE xs = T at *
    clear hhr hr hb hget hTl
    go_enter Try.func4, Try.ntmps4
    go_wp2_with fail
    refine (awake14 _).mono ?_
    rintro e w0 ⟨rfl, t0⟩
    have PT := Lib.hid (PT.out.pure t0)
    have R0 := Lib.hid (R0.out.pure t0)
    clear t0
    go_wp2_with fail
    refine (HP1.out _ _ R0.out).mono ?_
    rintro e w1 ⟨rfl, t1⟩
    have PT := Lib.hid (PT.out.pure t1)
    have R0 := Lib.hid (R0.out.pure t1)
    clear t1
    go_wp2_with fail
    refine (Num_any _ _).mono ?_
    rintro e wn1 ⟨rfl, rfl⟩
    go_wp2_with fail
    refine (HM1.out _ _ R0.out).mono ?_
    rintro e w2 ⟨rfl, t2⟩
    have PT := Lib.hid (PT.out.pure t2)
    have R0 := Lib.hid (R0.out.pure t2)
    clear t2
    go_wp2_with fail
    refine (Num_any _ _).mono ?_
    rintro e wn2 ⟨rfl, rfl⟩
    go_wp2_with fail
    refine (HGA.out _).mono ?_
    rintro e w3 ⟨ra, rfl, RA, t3⟩
    have PT := Lib.hid (PT.out.pure t3); have R0 := Lib.hid (R0.out.pure t3); have RA := Lib.hid RA
    clear t3
    go_wp2_with fail
    refine (Num_any _ _).mono ?_
    rintro e wn8 ⟨rfl, rfl⟩
    go_wp2_with fail
    refine (HSM.out _ _ _ RA.out R0.out).mono ?_
    rintro e w4 ⟨rfl, t4⟩
    have PT := Lib.hid (PT.out.pure t4)
    clear t4
    rcases hgc with ⟨hg, hpt, hrt⟩ | hg
    · have HG1 : Hid (∀ W, Calls Try.prog 12 #[.string (bstr s)] W fun e w' => ∃ r, e = .returned (.tuple #[r, .int .i64 0]) ∧ Rows inoC 37 w' r GS ∧ Pure W w') := Lib.hid fun W => by
        have := HG0.out W
        rwa [hg] at this
      have HP2 : Hid (∀ W U, Rows inoC 37 W U GS → Calls Try.prog 10 #[U] W fun e w' => e = .returned (.tuple #[.string (bstr s), .int .i64 0]) ∧ Pure W w') := Lib.hid fun W U h => by
        have := Put_any W U GS h hrt (by omega)
        rwa [hpt] at this
      clear hg hpt hrt HG0
      go_wp2_with fail
      refine (HG1.out _).mono ?_
      rintro e w5 ⟨rc, rfl, RC, t5⟩
      have PT := Lib.hid (PT.out.pure t5); have RC := Lib.hid RC
      clear t5
      go_wp2_with fail
      refine (Num_any _ _).mono ?_
      rintro e wn3 ⟨rfl, rfl⟩
      go_wp2_with fail
      refine (HP2.out _ _ RC.out).mono ?_
      rintro e w6 ⟨rfl, t6⟩
      have PT := Lib.hid (PT.out.pure t6)
      clear t6
      go_wp2_with fail
      refine (Num_any _ _).mono ?_
      rintro e wn4 ⟨rfl, rfl⟩
      go_wp2
      go_ret
      exact ⟨rfl, PT.out⟩
    · have HG1 : Hid (∀ W, Calls Try.prog 12 #[.string (bstr s)] W fun e w' => ∃ r, e = .returned (.tuple #[r, .int .i64 1400]) ∧ Rows inoC 37 w' r [] ∧ Pure W w') := Lib.hid fun W => by
        have := Get_any W s hs
        rwa [hg] at this
      clear hg HG0
      go_wp2_with fail
      refine (HG1.out _).mono ?_
      rintro e w5 ⟨rc, rfl, RC, t5⟩
      have PT := Lib.hid (PT.out.pure t5)
      obtain ⟨cao, cc, rfl, _⟩ := RC.at_
      clear t5
      go_wp2_with fail
      refine (Num_any _ _).mono ?_
      rintro e wn3 ⟨rfl, rfl⟩
      go_wp2
      go_ret
      exact ⟨rfl, PT.out⟩

def inoX : Ino := ⟨2, 0, 0, 1, 9, List.replicate 32 0⟩
def inoY : Ino := ⟨3, 1, 1, 1, 0, List.replicate 32 0⟩
theorem builtX : Try.prog.built 41 [(0, .int .i64 2), (1, .int .i64 0), (3, .int .i64 1), (4, .int .i64 9)] = some (inoC inoX).toArray := by kernel_rfl
theorem builtY : Try.prog.built 41 [(0, .int .i64 3), (1, .int .i64 1), (2, .int .i64 1), (3, .int .i64 1)] = some (inoC inoY).toArray := by kernel_rfl
theorem fillXY : Instr.fill (fun i => some (i * 37, 37)) ((Array.range (2 * 37)).map ((Value.agg (inoC ⟨0, 0, 0, 0, 0, List.replicate 32 0⟩).toArray).cells[· % (Value.agg (inoC ⟨0, 0, 0, 0, 0, List.replicate 32 0⟩).toArray).cells.size]!)) [(0, .agg (inoC inoX).toArray), (1, .agg (inoC inoY).toArray)] = some (rowOf inoC [inoX, inoY]).toArray := by kernel_rfl
theorem wpList_buildXY {ops : Array Oper} {rest : List Oper} {o : Oper} {a : Act} {w : World} {Q : Exit → Act → World → Prop} (hg : o.guard = none) (x y : Operand) (ho : o.op = .buildSlice 22 2 #[(0, x), (1, y)])
    (hx : a.eval x = .agg (inoC inoX).toArray) (hy : a.eval y = .agg (inoC inoY).toArray)
    (h : wpList Try.prog ops Q rest (a.put o.dst (.slice (some ⟨w.heap.size, 0, none⟩) 2 2)) (w.alloc (.cells (rowOf inoC [inoX, inoY]).toArray 41))) : wpList Try.prog ops Q (o :: rest) a w := by
  have hz0 : (Try.prog.info? 41).map (fun i => (i.zero, i.size)) = some (some (Value.agg (inoC ⟨0, 0, 0, 0, 0, List.replicate 32 0⟩).toArray), 37) := by kernel_rfl
  cases hi : Try.prog.info? 41 with
  | none => rw [hi] at hz0; simp at hz0
  | some i =>
    rw [hi] at hz0
    simp only [Option.map_some, Option.some.injEq, Prod.mk.injEq] at hz0
    obtain ⟨hz, hs⟩ := hz0
    refine wpList_buildSlice hg 22 41 2 #[(0, x), (1, y)] ho (rowOf inoC [inoX, inoY]).toArray i _ Try.underlying22 hi hz (by rw [hs]; omega) (by rw [hs]; omega) ?_ h
    rw [hs]
    simpa [hx, hy] using fillXY
theorem wpList_buildXY' {L : List Value} (hL : L = rowOf inoC [inoX, inoY]) {ops : Array Oper} {rest : List Oper} {o : Oper} {a : Act} {w : World} {Q : Exit → Act → World → Prop} (hg : o.guard = none) (x y : Operand) (ho : o.op = .buildSlice 22 2 #[(0, x), (1, y)])
    (hx : a.eval x = .agg (inoC inoX).toArray) (hy : a.eval y = .agg (inoC inoY).toArray)
    (h : wpList Try.prog ops Q rest (a.put o.dst (.slice (some ⟨w.heap.size, 0, none⟩) 2 2)) (w.alloc (.cells L.toArray 41))) : wpList Try.prog ops Q (o :: rest) a w := by
  subst hL
  exact wpList_buildXY hg x y ho hx hy h
/-- Two inodes in a block. -/
theorem rows_two (w : World) (g : Nat) (l : List Value) (X Y : Ino) (hX : X.root.length = 32) (hY : Y.root.length = 32) (hl : l = rowOf inoC [X, Y]) (hg : w.heap[g]? = some (.cells l.toArray 41 (0, 0))) : Rows inoC 37 w (.slice (some ⟨g, 0, none⟩) 2 2) [X, Y] :=
  ⟨_, 2, rfl, Nat.le_refl _, fun _ => ⟨_, 0, rfl, by rw [← hl]; exact range_of_row hg⟩, fun y hy => by
    rcases List.mem_cons.1 hy with rfl | hy
    · exact inoC_length hX
    · rw [List.mem_singleton.1 hy]; exact inoC_length hY⟩
theorem forms_root {X Y : Ino} (hX : X.root.length = 32) (hY : Y.root.length = 32) : ∀ x ∈ [X, Y], x.root.length = 32 := fun y hy => by
  rcases List.mem_cons.1 hy with rfl | hy
  · exact hX
  · rw [List.mem_singleton.1 hy]; exact hY
/-- What the law's cases change: the cell, the value, the two inodes then. -/
def formV (c : Nat) (d : Int) : Nat × Int × Ino × Ino :=
  if c = 0 then (0, 3, { inoX with num := 3 }, inoY) else if c = 1 then (0, 1 - d, { inoX with num := 1 - d }, inoY) else if c = 2 then (37, 32 + d, inoX, { inoY with num := 32 + d })
  else if c = 3 then (1, 1 + d, { inoX with kind := 1 + d }, inoY) else if c = 4 then (2, 1 + d, { inoX with mode := 1 + d }, inoY) else if c = 5 then (39, -d, inoX, { inoY with mode := -d })
  else if c = 6 then (3, 1 - d, { inoX with links := 1 - d }, inoY) else if c = 7 then (40, 32 + d, inoX, { inoY with links := 32 + d }) else if c = 8 then (4, 4096 + d, { inoX with size := 4096 + d }, inoY) else (41, d, inoX, { inoY with size := d })
set_option maxRecDepth 100000 in
set_option maxHeartbeats 4000000 in
theorem formV_ok (c : Nat) (hc : c < 10) (d : Int) (h1 : 1 ≤ d) (h2 : d ≤ 64) : tabB [(formV c d).2.2.1, (formV c d).2.2.2] = false ∧ (formV c d).2.2.1.root.length = 32 ∧ (formV c d).2.2.2.root.length = 32 ∧
    (rowOf inoC [inoX, inoY]).set (formV c d).1 (.int .i64 (formV c d).2.1) = rowOf inoC [(formV c d).2.2.1, (formV c d).2.2.2] := by
  rcases (by omega : c = 0 ∨ c = 1 ∨ c = 2 ∨ c = 3 ∨ c = 4 ∨ c = 5 ∨ c = 6 ∨ c = 7 ∨ c = 8 ∨ c = 9) with rfl | rfl | rfl | rfl | rfl | rfl | rfl | rfl | rfl | rfl
  all_goals refine ⟨?_, by simp [formV, inoX, inoY], by simp [formV, inoX, inoY], by rfl⟩
  all_goals rw [Bool.eq_false_iff]
  all_goals intro hh
  all_goals simp [formV, tabB, risB, inoB, nodeB, inoX, inoY] at hh
  all_goals omega

set_option maxRecDepth 100000 in
set_option maxHeartbeats 4000000 in
theorem ItabForms_any (w : World) (wh x : Int) : Calls Try.prog 5 #[.int .i64 wh, .int .i64 x] w fun e w' => e = .returned (.bool true) ∧ Pure w w' := by
  obtain ⟨H, hH, hand⟩ := and63 x
  obtain ⟨d, hd⟩ : ∃ d, d = 1 + H := ⟨_, rfl⟩
  have hd1 : 1 ≤ d ∧ d ≤ 64 := by omega
  have i0 : IntKind.i64.wrap (1 + (H : Int)) = (d : Int) := by rw [IntWalk.i64_in _ (by omega)]; omega
  clear hd
  obtain ⟨c, hc, hrem⟩ := rem_at wh 10 (by omega)
  obtain ⟨hbad, hrX, hrY, hset⟩ := formV_ok c hc (d : Int) (by omega) (by omega)
  have rX : inoX.root.length = 32 := by decide
  have rY : inoY.root.length = 32 := by decide
  have tXY : tabB [inoX, inoY] = true := by decide
  have HM0 := Lib.hid (fun W V (h : Rows inoC 37 W V [inoX, inoY]) => May_any W V [inoX, inoY] h (forms_root rX rY) (by simp))
  rw [tXY] at HM0
  have hC : ∀ (W : World) g k v, W.heap[g]? = some (.cells (rowOf inoC [inoX, inoY]).toArray 41 (0, 0)) → (W.setCell ⟨g, k, none⟩ v).heap[g]? = some (.cells ((rowOf inoC [inoX, inoY]).set k v).toArray 41 (0, 0)) := fun W g k v h => by rw [heap_set_cell h, List.setIfInBounds_toArray]
  have hfree : ∀ (W : World) g k, k < 74 → W.heap[g]? = some (.cells (rowOf inoC [inoX, inoY]).toArray 41 (0, 0)) → (∃ v, W.cell? ⟨g, k, none⟩ = some v) ∧ W.frozen? ⟨g, k, none⟩ = false := fun W g k hk h => by
    rw [cell_of_row W g k _ _ _ h, frozen_of_row W g k _ _ h]
    have hl : (rowOf inoC [inoX, inoY]).length = 74 := by decide
    exact ⟨⟨_, by rw [List.getElem?_toArray]; exact List.getElem?_eq_getElem (by omega)⟩, rfl⟩
  have HCS := Lib.hid hC; have HFR := Lib.hid hfree
  clear hC hfree tXY
  have R1 := Lib.hid (fun W : World => rows_two (W.alloc (.cells (rowOf inoC [inoX, inoY]).toArray 41)) W.heap.size _ inoX inoY rX rY rfl (heap_alloc_new W _))
  have D1 := Lib.hid (fun W : World => (heap_alloc_new W (.cells (rowOf inoC [inoX, inoY]).toArray 41)))
  have HL0 : Hid (∃ L, L = rowOf inoC [inoX, inoY]) := Lib.hid ⟨_, rfl⟩
  obtain ⟨L0, hL0⟩ := HL0.out
  rw [← hL0] at hset R1 D1 HCS HFR
  have HL0 := Lib.hid hL0
  clear hL0
  rcases (by omega : c = 0 ∨ c = 1 ∨ c = 2 ∨ c = 3 ∨ c = 4 ∨ c = 5 ∨ c = 6 ∨ c = 7 ∨ c = 8 ∨ c = 9) with rfl | rfl | rfl | rfl | rfl | rfl | rfl | rfl | rfl | rfl
  · have hr : (IntKind.u64.wrap wh).tmod 10 = 0 := hrem
    have hset : L0.set 0 (.int .i64 3) = rowOf inoC [(formV 0 (d : Int)).2.2.1, (formV 0 (d : Int)).2.2.2] := hset
    generalize (formV 0 (d : Int)).2.2.1 = X at hbad hrX hset
    generalize (formV 0 (d : Int)).2.2.2 = Y at hbad hrY hset
    have HM1 := Lib.hid (fun W V (h : Rows inoC 37 W V [X, Y]) => May_any W V [X, Y] h (forms_root hrX hrY) (by simp))
    have HP1 := Lib.hid (fun W V (h : Rows inoC 37 W V [X, Y]) => Put_any W V [X, Y] h (forms_root hrX hrY) (by simp))
    rw [hbad] at HM1
    rw [putT, if_neg (by rw [hbad]; decide)] at HP1
    have HSET := Lib.hid (And.intro hset (And.intro hrX hrY))
    clear hrem hc hbad hset hrX hrY rX rY
    go_enter Try.func5, Try.ntmps5
    go_wp2_with fail
    refine (awake14 _).mono ?_
    rintro e w0 ⟨rfl, t0⟩
    have PT := Lib.hid t0
    have lg := t0.size
    clear t0
    have R1 := Lib.hid (R1.out w0); have D1 := Lib.hid (D1.out w0); have PT := Lib.hid (PT.out.alloc (.cells L0.toArray 41))
    go_wp2_with (first | (refine wpList_buildN rfl _ rfl _ inoX builtX (by rfl) ?_) | (refine wpList_buildN rfl _ rfl _ inoY builtY (by rfl) ?_) | (refine wpList_buildXY' HL0.out rfl _ _ rfl rfl rfl ?_))
    generalize w0.alloc (.cells L0.toArray 41) = w1 at *
    generalize w0.heap.size = g at *
    refine (HM0.out _ _ R1.out).mono ?_
    rintro e w2 ⟨rfl, t2⟩
    have PT := Lib.hid (PT.out.pure t2); have D1 := Lib.hid (t2.obj D1.out (fun e => e))
    clear t2 R1 HM0
    obtain ⟨⟨v0, k0⟩, f0⟩ := HFR.out w2 g 0 (by decide) D1.out
    have hD := HCS.out w2 g 0 (.int .i64 3) D1.out
    have hT : Turn (fun q => q = g) w2 (w2.setCell ⟨g, 0, none⟩ (.int .i64 3)) := (Turn.refl (fun q => q = g) w2).setCell (p := ⟨g, 0, none⟩) (fun _ => rfl) _
    rw [HSET.out.1] at hD
    have R2 := Lib.hid (rows_two _ g _ X Y HSET.out.2.1 HSET.out.2.2 rfl hD)
    have PT := Lib.hid (PT.out.trans hT fun q hq e => by omega : Pure w _)
    clear hD hT D1
    go_wp2_with fail
    generalize w2.setCell ⟨g, 0, none⟩ (.int .i64 3) = w3 at *
    clear k0 f0
    refine (HP1.out _ _ R2.out).mono ?_
    rintro e w4 ⟨rfl, t4⟩
    have PT := Lib.hid (PT.out.pure t4); have R2 := Lib.hid (R2.out.pure t4)
    clear t4
    go_wp2_with fail
    refine (HM1.out _ _ R2.out).mono ?_
    rintro e w5 ⟨rfl, t5⟩
    have PT := Lib.hid (PT.out.pure t5)
    clear t5
    go_wp2_with fail
    refine (Num_any _ _).mono ?_
    rintro e w6 ⟨rfl, rfl⟩
    go_wp2
    go_ret
    exact ⟨rfl, PT.out⟩
  · have hr : (IntKind.u64.wrap wh).tmod 10 = 1 := hrem
    have j1 : IntKind.i64.wrap (1 - (d : Int)) = (1 - (d : Int)) := IntWalk.i64_in _ (by omega)
    have hset : L0.set 0 (.int .i64 (1 - (d : Int))) = rowOf inoC [(formV 1 (d : Int)).2.2.1, (formV 1 (d : Int)).2.2.2] := hset
    generalize (formV 1 (d : Int)).2.2.1 = X at hbad hrX hset
    generalize (formV 1 (d : Int)).2.2.2 = Y at hbad hrY hset
    have HM1 := Lib.hid (fun W V (h : Rows inoC 37 W V [X, Y]) => May_any W V [X, Y] h (forms_root hrX hrY) (by simp))
    have HP1 := Lib.hid (fun W V (h : Rows inoC 37 W V [X, Y]) => Put_any W V [X, Y] h (forms_root hrX hrY) (by simp))
    rw [hbad] at HM1
    rw [putT, if_neg (by rw [hbad]; decide)] at HP1
    have HSET := Lib.hid (And.intro hset (And.intro hrX hrY))
    clear hrem hc hbad hset hrX hrY rX rY
    go_enter Try.func5, Try.ntmps5
    go_wp2_with fail
    refine (awake14 _).mono ?_
    rintro e w0 ⟨rfl, t0⟩
    have PT := Lib.hid t0
    have lg := t0.size
    clear t0
    have R1 := Lib.hid (R1.out w0); have D1 := Lib.hid (D1.out w0); have PT := Lib.hid (PT.out.alloc (.cells L0.toArray 41))
    go_wp2_with (first | (refine wpList_buildN rfl _ rfl _ inoX builtX (by rfl) ?_) | (refine wpList_buildN rfl _ rfl _ inoY builtY (by rfl) ?_) | (refine wpList_buildXY' HL0.out rfl _ _ rfl rfl rfl ?_))
    generalize w0.alloc (.cells L0.toArray 41) = w1 at *
    generalize w0.heap.size = g at *
    refine (HM0.out _ _ R1.out).mono ?_
    rintro e w2 ⟨rfl, t2⟩
    have PT := Lib.hid (PT.out.pure t2); have D1 := Lib.hid (t2.obj D1.out (fun e => e))
    clear t2 R1 HM0
    obtain ⟨⟨v0, k0⟩, f0⟩ := HFR.out w2 g 0 (by decide) D1.out
    have hD := HCS.out w2 g 0 (.int .i64 (1 - (d : Int))) D1.out
    have hT : Turn (fun q => q = g) w2 (w2.setCell ⟨g, 0, none⟩ (.int .i64 (1 - (d : Int)))) := (Turn.refl (fun q => q = g) w2).setCell (p := ⟨g, 0, none⟩) (fun _ => rfl) _
    rw [HSET.out.1] at hD
    have R2 := Lib.hid (rows_two _ g _ X Y HSET.out.2.1 HSET.out.2.2 rfl hD)
    have PT := Lib.hid (PT.out.trans hT fun q hq e => by omega : Pure w _)
    clear hD hT D1
    go_wp2_with fail
    generalize w2.setCell ⟨g, 0, none⟩ (.int .i64 (1 - (d : Int))) = w3 at *
    clear k0 f0
    refine (HP1.out _ _ R2.out).mono ?_
    rintro e w4 ⟨rfl, t4⟩
    have PT := Lib.hid (PT.out.pure t4); have R2 := Lib.hid (R2.out.pure t4)
    clear t4
    go_wp2_with fail
    refine (HM1.out _ _ R2.out).mono ?_
    rintro e w5 ⟨rfl, t5⟩
    have PT := Lib.hid (PT.out.pure t5)
    clear t5
    go_wp2_with fail
    refine (Num_any _ _).mono ?_
    rintro e w6 ⟨rfl, rfl⟩
    go_wp2
    go_ret
    exact ⟨rfl, PT.out⟩
  · have hr : (IntKind.u64.wrap wh).tmod 10 = 2 := hrem
    have j1 : IntKind.i64.wrap (32 + (d : Int)) = (32 + (d : Int)) := IntWalk.i64_in _ (by omega)
    have hset : L0.set 37 (.int .i64 (32 + (d : Int))) = rowOf inoC [(formV 2 (d : Int)).2.2.1, (formV 2 (d : Int)).2.2.2] := hset
    generalize (formV 2 (d : Int)).2.2.1 = X at hbad hrX hset
    generalize (formV 2 (d : Int)).2.2.2 = Y at hbad hrY hset
    have HM1 := Lib.hid (fun W V (h : Rows inoC 37 W V [X, Y]) => May_any W V [X, Y] h (forms_root hrX hrY) (by simp))
    have HP1 := Lib.hid (fun W V (h : Rows inoC 37 W V [X, Y]) => Put_any W V [X, Y] h (forms_root hrX hrY) (by simp))
    rw [hbad] at HM1
    rw [putT, if_neg (by rw [hbad]; decide)] at HP1
    have HSET := Lib.hid (And.intro hset (And.intro hrX hrY))
    clear hrem hc hbad hset hrX hrY rX rY
    go_enter Try.func5, Try.ntmps5
    go_wp2_with fail
    refine (awake14 _).mono ?_
    rintro e w0 ⟨rfl, t0⟩
    have PT := Lib.hid t0
    have lg := t0.size
    clear t0
    have R1 := Lib.hid (R1.out w0); have D1 := Lib.hid (D1.out w0); have PT := Lib.hid (PT.out.alloc (.cells L0.toArray 41))
    go_wp2_with (first | (refine wpList_buildN rfl _ rfl _ inoX builtX (by rfl) ?_) | (refine wpList_buildN rfl _ rfl _ inoY builtY (by rfl) ?_) | (refine wpList_buildXY' HL0.out rfl _ _ rfl rfl rfl ?_))
    generalize w0.alloc (.cells L0.toArray 41) = w1 at *
    generalize w0.heap.size = g at *
    refine (HM0.out _ _ R1.out).mono ?_
    rintro e w2 ⟨rfl, t2⟩
    have PT := Lib.hid (PT.out.pure t2); have D1 := Lib.hid (t2.obj D1.out (fun e => e))
    clear t2 R1 HM0
    obtain ⟨⟨v0, k0⟩, f0⟩ := HFR.out w2 g 37 (by decide) D1.out
    have hD := HCS.out w2 g 37 (.int .i64 (32 + (d : Int))) D1.out
    have hT : Turn (fun q => q = g) w2 (w2.setCell ⟨g, 37, none⟩ (.int .i64 (32 + (d : Int)))) := (Turn.refl (fun q => q = g) w2).setCell (p := ⟨g, 37, none⟩) (fun _ => rfl) _
    rw [HSET.out.1] at hD
    have R2 := Lib.hid (rows_two _ g _ X Y HSET.out.2.1 HSET.out.2.2 rfl hD)
    have PT := Lib.hid (PT.out.trans hT fun q hq e => by omega : Pure w _)
    clear hD hT D1
    go_wp2_with fail
    generalize w2.setCell ⟨g, 37, none⟩ (.int .i64 (32 + (d : Int))) = w3 at *
    clear k0 f0
    refine (HP1.out _ _ R2.out).mono ?_
    rintro e w4 ⟨rfl, t4⟩
    have PT := Lib.hid (PT.out.pure t4); have R2 := Lib.hid (R2.out.pure t4)
    clear t4
    go_wp2_with fail
    refine (HM1.out _ _ R2.out).mono ?_
    rintro e w5 ⟨rfl, t5⟩
    have PT := Lib.hid (PT.out.pure t5)
    clear t5
    go_wp2_with fail
    refine (Num_any _ _).mono ?_
    rintro e w6 ⟨rfl, rfl⟩
    go_wp2
    go_ret
    exact ⟨rfl, PT.out⟩
  · have hr : (IntKind.u64.wrap wh).tmod 10 = 3 := hrem
    have j1 : IntKind.i64.wrap (1 + (d : Int)) = (1 + (d : Int)) := IntWalk.i64_in _ (by omega)
    have hset : L0.set 1 (.int .i64 (1 + (d : Int))) = rowOf inoC [(formV 3 (d : Int)).2.2.1, (formV 3 (d : Int)).2.2.2] := hset
    generalize (formV 3 (d : Int)).2.2.1 = X at hbad hrX hset
    generalize (formV 3 (d : Int)).2.2.2 = Y at hbad hrY hset
    have HM1 := Lib.hid (fun W V (h : Rows inoC 37 W V [X, Y]) => May_any W V [X, Y] h (forms_root hrX hrY) (by simp))
    have HP1 := Lib.hid (fun W V (h : Rows inoC 37 W V [X, Y]) => Put_any W V [X, Y] h (forms_root hrX hrY) (by simp))
    rw [hbad] at HM1
    rw [putT, if_neg (by rw [hbad]; decide)] at HP1
    have HSET := Lib.hid (And.intro hset (And.intro hrX hrY))
    clear hrem hc hbad hset hrX hrY rX rY
    go_enter Try.func5, Try.ntmps5
    go_wp2_with fail
    refine (awake14 _).mono ?_
    rintro e w0 ⟨rfl, t0⟩
    have PT := Lib.hid t0
    have lg := t0.size
    clear t0
    have R1 := Lib.hid (R1.out w0); have D1 := Lib.hid (D1.out w0); have PT := Lib.hid (PT.out.alloc (.cells L0.toArray 41))
    go_wp2_with (first | (refine wpList_buildN rfl _ rfl _ inoX builtX (by rfl) ?_) | (refine wpList_buildN rfl _ rfl _ inoY builtY (by rfl) ?_) | (refine wpList_buildXY' HL0.out rfl _ _ rfl rfl rfl ?_))
    generalize w0.alloc (.cells L0.toArray 41) = w1 at *
    generalize w0.heap.size = g at *
    refine (HM0.out _ _ R1.out).mono ?_
    rintro e w2 ⟨rfl, t2⟩
    have PT := Lib.hid (PT.out.pure t2); have D1 := Lib.hid (t2.obj D1.out (fun e => e))
    clear t2 R1 HM0
    obtain ⟨⟨v0, k0⟩, f0⟩ := HFR.out w2 g 1 (by decide) D1.out
    have hD := HCS.out w2 g 1 (.int .i64 (1 + (d : Int))) D1.out
    have hT : Turn (fun q => q = g) w2 (w2.setCell ⟨g, 1, none⟩ (.int .i64 (1 + (d : Int)))) := (Turn.refl (fun q => q = g) w2).setCell (p := ⟨g, 1, none⟩) (fun _ => rfl) _
    rw [HSET.out.1] at hD
    have R2 := Lib.hid (rows_two _ g _ X Y HSET.out.2.1 HSET.out.2.2 rfl hD)
    have PT := Lib.hid (PT.out.trans hT fun q hq e => by omega : Pure w _)
    clear hD hT D1
    go_wp2_with fail
    generalize w2.setCell ⟨g, 1, none⟩ (.int .i64 (1 + (d : Int))) = w3 at *
    clear k0 f0
    refine (HP1.out _ _ R2.out).mono ?_
    rintro e w4 ⟨rfl, t4⟩
    have PT := Lib.hid (PT.out.pure t4); have R2 := Lib.hid (R2.out.pure t4)
    clear t4
    go_wp2_with fail
    refine (HM1.out _ _ R2.out).mono ?_
    rintro e w5 ⟨rfl, t5⟩
    have PT := Lib.hid (PT.out.pure t5)
    clear t5
    go_wp2_with fail
    refine (Num_any _ _).mono ?_
    rintro e w6 ⟨rfl, rfl⟩
    go_wp2
    go_ret
    exact ⟨rfl, PT.out⟩
  · have hr : (IntKind.u64.wrap wh).tmod 10 = 4 := hrem
    have j1 : IntKind.i64.wrap (1 + (d : Int)) = (1 + (d : Int)) := IntWalk.i64_in _ (by omega)
    have hset : L0.set 2 (.int .i64 (1 + (d : Int))) = rowOf inoC [(formV 4 (d : Int)).2.2.1, (formV 4 (d : Int)).2.2.2] := hset
    generalize (formV 4 (d : Int)).2.2.1 = X at hbad hrX hset
    generalize (formV 4 (d : Int)).2.2.2 = Y at hbad hrY hset
    have HM1 := Lib.hid (fun W V (h : Rows inoC 37 W V [X, Y]) => May_any W V [X, Y] h (forms_root hrX hrY) (by simp))
    have HP1 := Lib.hid (fun W V (h : Rows inoC 37 W V [X, Y]) => Put_any W V [X, Y] h (forms_root hrX hrY) (by simp))
    rw [hbad] at HM1
    rw [putT, if_neg (by rw [hbad]; decide)] at HP1
    have HSET := Lib.hid (And.intro hset (And.intro hrX hrY))
    clear hrem hc hbad hset hrX hrY rX rY
    go_enter Try.func5, Try.ntmps5
    go_wp2_with fail
    refine (awake14 _).mono ?_
    rintro e w0 ⟨rfl, t0⟩
    have PT := Lib.hid t0
    have lg := t0.size
    clear t0
    have R1 := Lib.hid (R1.out w0); have D1 := Lib.hid (D1.out w0); have PT := Lib.hid (PT.out.alloc (.cells L0.toArray 41))
    go_wp2_with (first | (refine wpList_buildN rfl _ rfl _ inoX builtX (by rfl) ?_) | (refine wpList_buildN rfl _ rfl _ inoY builtY (by rfl) ?_) | (refine wpList_buildXY' HL0.out rfl _ _ rfl rfl rfl ?_))
    generalize w0.alloc (.cells L0.toArray 41) = w1 at *
    generalize w0.heap.size = g at *
    refine (HM0.out _ _ R1.out).mono ?_
    rintro e w2 ⟨rfl, t2⟩
    have PT := Lib.hid (PT.out.pure t2); have D1 := Lib.hid (t2.obj D1.out (fun e => e))
    clear t2 R1 HM0
    obtain ⟨⟨v0, k0⟩, f0⟩ := HFR.out w2 g 2 (by decide) D1.out
    have hD := HCS.out w2 g 2 (.int .i64 (1 + (d : Int))) D1.out
    have hT : Turn (fun q => q = g) w2 (w2.setCell ⟨g, 2, none⟩ (.int .i64 (1 + (d : Int)))) := (Turn.refl (fun q => q = g) w2).setCell (p := ⟨g, 2, none⟩) (fun _ => rfl) _
    rw [HSET.out.1] at hD
    have R2 := Lib.hid (rows_two _ g _ X Y HSET.out.2.1 HSET.out.2.2 rfl hD)
    have PT := Lib.hid (PT.out.trans hT fun q hq e => by omega : Pure w _)
    clear hD hT D1
    go_wp2_with fail
    generalize w2.setCell ⟨g, 2, none⟩ (.int .i64 (1 + (d : Int))) = w3 at *
    clear k0 f0
    refine (HP1.out _ _ R2.out).mono ?_
    rintro e w4 ⟨rfl, t4⟩
    have PT := Lib.hid (PT.out.pure t4); have R2 := Lib.hid (R2.out.pure t4)
    clear t4
    go_wp2_with fail
    refine (HM1.out _ _ R2.out).mono ?_
    rintro e w5 ⟨rfl, t5⟩
    have PT := Lib.hid (PT.out.pure t5)
    clear t5
    go_wp2_with fail
    refine (Num_any _ _).mono ?_
    rintro e w6 ⟨rfl, rfl⟩
    go_wp2
    go_ret
    exact ⟨rfl, PT.out⟩
  · have hr : (IntKind.u64.wrap wh).tmod 10 = 5 := hrem
    have j1 : IntKind.i64.wrap (-(d : Int)) = (-(d : Int)) := IntWalk.i64_in _ (by omega)
    have hset : L0.set 39 (.int .i64 (-(d : Int))) = rowOf inoC [(formV 5 (d : Int)).2.2.1, (formV 5 (d : Int)).2.2.2] := hset
    generalize (formV 5 (d : Int)).2.2.1 = X at hbad hrX hset
    generalize (formV 5 (d : Int)).2.2.2 = Y at hbad hrY hset
    have HM1 := Lib.hid (fun W V (h : Rows inoC 37 W V [X, Y]) => May_any W V [X, Y] h (forms_root hrX hrY) (by simp))
    have HP1 := Lib.hid (fun W V (h : Rows inoC 37 W V [X, Y]) => Put_any W V [X, Y] h (forms_root hrX hrY) (by simp))
    rw [hbad] at HM1
    rw [putT, if_neg (by rw [hbad]; decide)] at HP1
    have HSET := Lib.hid (And.intro hset (And.intro hrX hrY))
    clear hrem hc hbad hset hrX hrY rX rY
    go_enter Try.func5, Try.ntmps5
    go_wp2_with fail
    refine (awake14 _).mono ?_
    rintro e w0 ⟨rfl, t0⟩
    have PT := Lib.hid t0
    have lg := t0.size
    clear t0
    have R1 := Lib.hid (R1.out w0); have D1 := Lib.hid (D1.out w0); have PT := Lib.hid (PT.out.alloc (.cells L0.toArray 41))
    go_wp2_with (first | (refine wpList_buildN rfl _ rfl _ inoX builtX (by rfl) ?_) | (refine wpList_buildN rfl _ rfl _ inoY builtY (by rfl) ?_) | (refine wpList_buildXY' HL0.out rfl _ _ rfl rfl rfl ?_))
    generalize w0.alloc (.cells L0.toArray 41) = w1 at *
    generalize w0.heap.size = g at *
    refine (HM0.out _ _ R1.out).mono ?_
    rintro e w2 ⟨rfl, t2⟩
    have PT := Lib.hid (PT.out.pure t2); have D1 := Lib.hid (t2.obj D1.out (fun e => e))
    clear t2 R1 HM0
    obtain ⟨⟨v0, k0⟩, f0⟩ := HFR.out w2 g 39 (by decide) D1.out
    have hD := HCS.out w2 g 39 (.int .i64 (-(d : Int))) D1.out
    have hT : Turn (fun q => q = g) w2 (w2.setCell ⟨g, 39, none⟩ (.int .i64 (-(d : Int)))) := (Turn.refl (fun q => q = g) w2).setCell (p := ⟨g, 39, none⟩) (fun _ => rfl) _
    rw [HSET.out.1] at hD
    have R2 := Lib.hid (rows_two _ g _ X Y HSET.out.2.1 HSET.out.2.2 rfl hD)
    have PT := Lib.hid (PT.out.trans hT fun q hq e => by omega : Pure w _)
    clear hD hT D1
    go_wp2_with fail
    generalize w2.setCell ⟨g, 39, none⟩ (.int .i64 (-(d : Int))) = w3 at *
    clear k0 f0
    refine (HP1.out _ _ R2.out).mono ?_
    rintro e w4 ⟨rfl, t4⟩
    have PT := Lib.hid (PT.out.pure t4); have R2 := Lib.hid (R2.out.pure t4)
    clear t4
    go_wp2_with fail
    refine (HM1.out _ _ R2.out).mono ?_
    rintro e w5 ⟨rfl, t5⟩
    have PT := Lib.hid (PT.out.pure t5)
    clear t5
    go_wp2_with fail
    refine (Num_any _ _).mono ?_
    rintro e w6 ⟨rfl, rfl⟩
    go_wp2
    go_ret
    exact ⟨rfl, PT.out⟩
  · have hr : (IntKind.u64.wrap wh).tmod 10 = 6 := hrem
    have j1 : IntKind.i64.wrap (1 - (d : Int)) = (1 - (d : Int)) := IntWalk.i64_in _ (by omega)
    have hset : L0.set 3 (.int .i64 (1 - (d : Int))) = rowOf inoC [(formV 6 (d : Int)).2.2.1, (formV 6 (d : Int)).2.2.2] := hset
    generalize (formV 6 (d : Int)).2.2.1 = X at hbad hrX hset
    generalize (formV 6 (d : Int)).2.2.2 = Y at hbad hrY hset
    have HM1 := Lib.hid (fun W V (h : Rows inoC 37 W V [X, Y]) => May_any W V [X, Y] h (forms_root hrX hrY) (by simp))
    have HP1 := Lib.hid (fun W V (h : Rows inoC 37 W V [X, Y]) => Put_any W V [X, Y] h (forms_root hrX hrY) (by simp))
    rw [hbad] at HM1
    rw [putT, if_neg (by rw [hbad]; decide)] at HP1
    have HSET := Lib.hid (And.intro hset (And.intro hrX hrY))
    clear hrem hc hbad hset hrX hrY rX rY
    go_enter Try.func5, Try.ntmps5
    go_wp2_with fail
    refine (awake14 _).mono ?_
    rintro e w0 ⟨rfl, t0⟩
    have PT := Lib.hid t0
    have lg := t0.size
    clear t0
    have R1 := Lib.hid (R1.out w0); have D1 := Lib.hid (D1.out w0); have PT := Lib.hid (PT.out.alloc (.cells L0.toArray 41))
    go_wp2_with (first | (refine wpList_buildN rfl _ rfl _ inoX builtX (by rfl) ?_) | (refine wpList_buildN rfl _ rfl _ inoY builtY (by rfl) ?_) | (refine wpList_buildXY' HL0.out rfl _ _ rfl rfl rfl ?_))
    generalize w0.alloc (.cells L0.toArray 41) = w1 at *
    generalize w0.heap.size = g at *
    refine (HM0.out _ _ R1.out).mono ?_
    rintro e w2 ⟨rfl, t2⟩
    have PT := Lib.hid (PT.out.pure t2); have D1 := Lib.hid (t2.obj D1.out (fun e => e))
    clear t2 R1 HM0
    obtain ⟨⟨v0, k0⟩, f0⟩ := HFR.out w2 g 3 (by decide) D1.out
    have hD := HCS.out w2 g 3 (.int .i64 (1 - (d : Int))) D1.out
    have hT : Turn (fun q => q = g) w2 (w2.setCell ⟨g, 3, none⟩ (.int .i64 (1 - (d : Int)))) := (Turn.refl (fun q => q = g) w2).setCell (p := ⟨g, 3, none⟩) (fun _ => rfl) _
    rw [HSET.out.1] at hD
    have R2 := Lib.hid (rows_two _ g _ X Y HSET.out.2.1 HSET.out.2.2 rfl hD)
    have PT := Lib.hid (PT.out.trans hT fun q hq e => by omega : Pure w _)
    clear hD hT D1
    go_wp2_with fail
    generalize w2.setCell ⟨g, 3, none⟩ (.int .i64 (1 - (d : Int))) = w3 at *
    clear k0 f0
    refine (HP1.out _ _ R2.out).mono ?_
    rintro e w4 ⟨rfl, t4⟩
    have PT := Lib.hid (PT.out.pure t4); have R2 := Lib.hid (R2.out.pure t4)
    clear t4
    go_wp2_with fail
    refine (HM1.out _ _ R2.out).mono ?_
    rintro e w5 ⟨rfl, t5⟩
    have PT := Lib.hid (PT.out.pure t5)
    clear t5
    go_wp2_with fail
    refine (Num_any _ _).mono ?_
    rintro e w6 ⟨rfl, rfl⟩
    go_wp2
    go_ret
    exact ⟨rfl, PT.out⟩
  · have hr : (IntKind.u64.wrap wh).tmod 10 = 7 := hrem
    have j1 : IntKind.i64.wrap (32 + (d : Int)) = (32 + (d : Int)) := IntWalk.i64_in _ (by omega)
    have hset : L0.set 40 (.int .i64 (32 + (d : Int))) = rowOf inoC [(formV 7 (d : Int)).2.2.1, (formV 7 (d : Int)).2.2.2] := hset
    generalize (formV 7 (d : Int)).2.2.1 = X at hbad hrX hset
    generalize (formV 7 (d : Int)).2.2.2 = Y at hbad hrY hset
    have HM1 := Lib.hid (fun W V (h : Rows inoC 37 W V [X, Y]) => May_any W V [X, Y] h (forms_root hrX hrY) (by simp))
    have HP1 := Lib.hid (fun W V (h : Rows inoC 37 W V [X, Y]) => Put_any W V [X, Y] h (forms_root hrX hrY) (by simp))
    rw [hbad] at HM1
    rw [putT, if_neg (by rw [hbad]; decide)] at HP1
    have HSET := Lib.hid (And.intro hset (And.intro hrX hrY))
    clear hrem hc hbad hset hrX hrY rX rY
    go_enter Try.func5, Try.ntmps5
    go_wp2_with fail
    refine (awake14 _).mono ?_
    rintro e w0 ⟨rfl, t0⟩
    have PT := Lib.hid t0
    have lg := t0.size
    clear t0
    have R1 := Lib.hid (R1.out w0); have D1 := Lib.hid (D1.out w0); have PT := Lib.hid (PT.out.alloc (.cells L0.toArray 41))
    go_wp2_with (first | (refine wpList_buildN rfl _ rfl _ inoX builtX (by rfl) ?_) | (refine wpList_buildN rfl _ rfl _ inoY builtY (by rfl) ?_) | (refine wpList_buildXY' HL0.out rfl _ _ rfl rfl rfl ?_))
    generalize w0.alloc (.cells L0.toArray 41) = w1 at *
    generalize w0.heap.size = g at *
    refine (HM0.out _ _ R1.out).mono ?_
    rintro e w2 ⟨rfl, t2⟩
    have PT := Lib.hid (PT.out.pure t2); have D1 := Lib.hid (t2.obj D1.out (fun e => e))
    clear t2 R1 HM0
    obtain ⟨⟨v0, k0⟩, f0⟩ := HFR.out w2 g 40 (by decide) D1.out
    have hD := HCS.out w2 g 40 (.int .i64 (32 + (d : Int))) D1.out
    have hT : Turn (fun q => q = g) w2 (w2.setCell ⟨g, 40, none⟩ (.int .i64 (32 + (d : Int)))) := (Turn.refl (fun q => q = g) w2).setCell (p := ⟨g, 40, none⟩) (fun _ => rfl) _
    rw [HSET.out.1] at hD
    have R2 := Lib.hid (rows_two _ g _ X Y HSET.out.2.1 HSET.out.2.2 rfl hD)
    have PT := Lib.hid (PT.out.trans hT fun q hq e => by omega : Pure w _)
    clear hD hT D1
    go_wp2_with fail
    generalize w2.setCell ⟨g, 40, none⟩ (.int .i64 (32 + (d : Int))) = w3 at *
    clear k0 f0
    refine (HP1.out _ _ R2.out).mono ?_
    rintro e w4 ⟨rfl, t4⟩
    have PT := Lib.hid (PT.out.pure t4); have R2 := Lib.hid (R2.out.pure t4)
    clear t4
    go_wp2_with fail
    refine (HM1.out _ _ R2.out).mono ?_
    rintro e w5 ⟨rfl, t5⟩
    have PT := Lib.hid (PT.out.pure t5)
    clear t5
    go_wp2_with fail
    refine (Num_any _ _).mono ?_
    rintro e w6 ⟨rfl, rfl⟩
    go_wp2
    go_ret
    exact ⟨rfl, PT.out⟩
  · have hr : (IntKind.u64.wrap wh).tmod 10 = 8 := hrem
    have j1 : IntKind.i64.wrap (4096 + (d : Int)) = (4096 + (d : Int)) := IntWalk.i64_in _ (by omega)
    have hset : L0.set 4 (.int .i64 (4096 + (d : Int))) = rowOf inoC [(formV 8 (d : Int)).2.2.1, (formV 8 (d : Int)).2.2.2] := hset
    generalize (formV 8 (d : Int)).2.2.1 = X at hbad hrX hset
    generalize (formV 8 (d : Int)).2.2.2 = Y at hbad hrY hset
    have HM1 := Lib.hid (fun W V (h : Rows inoC 37 W V [X, Y]) => May_any W V [X, Y] h (forms_root hrX hrY) (by simp))
    have HP1 := Lib.hid (fun W V (h : Rows inoC 37 W V [X, Y]) => Put_any W V [X, Y] h (forms_root hrX hrY) (by simp))
    rw [hbad] at HM1
    rw [putT, if_neg (by rw [hbad]; decide)] at HP1
    have HSET := Lib.hid (And.intro hset (And.intro hrX hrY))
    clear hrem hc hbad hset hrX hrY rX rY
    go_enter Try.func5, Try.ntmps5
    go_wp2_with fail
    refine (awake14 _).mono ?_
    rintro e w0 ⟨rfl, t0⟩
    have PT := Lib.hid t0
    have lg := t0.size
    clear t0
    have R1 := Lib.hid (R1.out w0); have D1 := Lib.hid (D1.out w0); have PT := Lib.hid (PT.out.alloc (.cells L0.toArray 41))
    go_wp2_with (first | (refine wpList_buildN rfl _ rfl _ inoX builtX (by rfl) ?_) | (refine wpList_buildN rfl _ rfl _ inoY builtY (by rfl) ?_) | (refine wpList_buildXY' HL0.out rfl _ _ rfl rfl rfl ?_))
    generalize w0.alloc (.cells L0.toArray 41) = w1 at *
    generalize w0.heap.size = g at *
    refine (HM0.out _ _ R1.out).mono ?_
    rintro e w2 ⟨rfl, t2⟩
    have PT := Lib.hid (PT.out.pure t2); have D1 := Lib.hid (t2.obj D1.out (fun e => e))
    clear t2 R1 HM0
    obtain ⟨⟨v0, k0⟩, f0⟩ := HFR.out w2 g 4 (by decide) D1.out
    have hD := HCS.out w2 g 4 (.int .i64 (4096 + (d : Int))) D1.out
    have hT : Turn (fun q => q = g) w2 (w2.setCell ⟨g, 4, none⟩ (.int .i64 (4096 + (d : Int)))) := (Turn.refl (fun q => q = g) w2).setCell (p := ⟨g, 4, none⟩) (fun _ => rfl) _
    rw [HSET.out.1] at hD
    have R2 := Lib.hid (rows_two _ g _ X Y HSET.out.2.1 HSET.out.2.2 rfl hD)
    have PT := Lib.hid (PT.out.trans hT fun q hq e => by omega : Pure w _)
    clear hD hT D1
    go_wp2_with fail
    generalize w2.setCell ⟨g, 4, none⟩ (.int .i64 (4096 + (d : Int))) = w3 at *
    clear k0 f0
    refine (HP1.out _ _ R2.out).mono ?_
    rintro e w4 ⟨rfl, t4⟩
    have PT := Lib.hid (PT.out.pure t4); have R2 := Lib.hid (R2.out.pure t4)
    clear t4
    go_wp2_with fail
    refine (HM1.out _ _ R2.out).mono ?_
    rintro e w5 ⟨rfl, t5⟩
    have PT := Lib.hid (PT.out.pure t5)
    clear t5
    go_wp2_with fail
    refine (Num_any _ _).mono ?_
    rintro e w6 ⟨rfl, rfl⟩
    go_wp2
    go_ret
    exact ⟨rfl, PT.out⟩
  · have hr : (IntKind.u64.wrap wh).tmod 10 = 9 := hrem
    have hset : L0.set 41 (.int .i64 (d : Int)) = rowOf inoC [(formV 9 (d : Int)).2.2.1, (formV 9 (d : Int)).2.2.2] := hset
    generalize (formV 9 (d : Int)).2.2.1 = X at hbad hrX hset
    generalize (formV 9 (d : Int)).2.2.2 = Y at hbad hrY hset
    have HM1 := Lib.hid (fun W V (h : Rows inoC 37 W V [X, Y]) => May_any W V [X, Y] h (forms_root hrX hrY) (by simp))
    have HP1 := Lib.hid (fun W V (h : Rows inoC 37 W V [X, Y]) => Put_any W V [X, Y] h (forms_root hrX hrY) (by simp))
    rw [hbad] at HM1
    rw [putT, if_neg (by rw [hbad]; decide)] at HP1
    have HSET := Lib.hid (And.intro hset (And.intro hrX hrY))
    clear hrem hc hbad hset hrX hrY rX rY
    go_enter Try.func5, Try.ntmps5
    go_wp2_with fail
    refine (awake14 _).mono ?_
    rintro e w0 ⟨rfl, t0⟩
    have PT := Lib.hid t0
    have lg := t0.size
    clear t0
    have R1 := Lib.hid (R1.out w0); have D1 := Lib.hid (D1.out w0); have PT := Lib.hid (PT.out.alloc (.cells L0.toArray 41))
    go_wp2_with (first | (refine wpList_buildN rfl _ rfl _ inoX builtX (by rfl) ?_) | (refine wpList_buildN rfl _ rfl _ inoY builtY (by rfl) ?_) | (refine wpList_buildXY' HL0.out rfl _ _ rfl rfl rfl ?_))
    generalize w0.alloc (.cells L0.toArray 41) = w1 at *
    generalize w0.heap.size = g at *
    refine (HM0.out _ _ R1.out).mono ?_
    rintro e w2 ⟨rfl, t2⟩
    have PT := Lib.hid (PT.out.pure t2); have D1 := Lib.hid (t2.obj D1.out (fun e => e))
    clear t2 R1 HM0
    obtain ⟨⟨v0, k0⟩, f0⟩ := HFR.out w2 g 41 (by decide) D1.out
    have hD := HCS.out w2 g 41 (.int .i64 (d : Int)) D1.out
    have hT : Turn (fun q => q = g) w2 (w2.setCell ⟨g, 41, none⟩ (.int .i64 (d : Int))) := (Turn.refl (fun q => q = g) w2).setCell (p := ⟨g, 41, none⟩) (fun _ => rfl) _
    rw [HSET.out.1] at hD
    have R2 := Lib.hid (rows_two _ g _ X Y HSET.out.2.1 HSET.out.2.2 rfl hD)
    have PT := Lib.hid (PT.out.trans hT fun q hq e => by omega : Pure w _)
    clear hD hT D1
    go_wp2_with fail
    generalize w2.setCell ⟨g, 41, none⟩ (.int .i64 (d : Int)) = w3 at *
    clear k0 f0
    refine (HP1.out _ _ R2.out).mono ?_
    rintro e w4 ⟨rfl, t4⟩
    have PT := Lib.hid (PT.out.pure t4); have R2 := Lib.hid (R2.out.pure t4)
    clear t4
    go_wp2_with fail
    refine (HM1.out _ _ R2.out).mono ?_
    rintro e w5 ⟨rfl, t5⟩
    have PT := Lib.hid (PT.out.pure t5)
    clear t5
    go_wp2_with fail
    refine (Num_any _ _).mono ?_
    rintro e w6 ⟨rfl, rfl⟩
    go_wp2
    go_ret
    exact ⟨rfl, PT.out⟩
end Go.Proofs.Ythfekopimmgdmaa
