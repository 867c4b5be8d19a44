/- Chapter 14: awake; the laws Itabs and ItabBack. -/
import Derived.Test.YthfekopimmgdmaaItab8
namespace Go.Proofs.Ythfekopimmgdmaa
open Go.RowKit

theorem cellsI : Try.prog.cellsOf 3 = 1 := by kernel_rfl
theorem cellsH : Try.prog.cellsOf 39 = 32 := by kernel_rfl
theorem cellsU : Try.prog.cellsOf 5 = 1 := by kernel_rfl
theorem cellsN : Try.prog.cellsOf 41 = 37 := by kernel_rfl
set_option maxRecDepth 100000 in
set_option maxHeartbeats 4000000 in
theorem ino_open {H : Type} {enc : TypeId × Value → H} {w : World} {cs : List Value} (h : Fit enc Try.prog w 41 cs) : ∃ x : Ino, cs = inoC x ∧ x.root.length = 32 := by
  obtain ⟨hl, hf⟩ := h.struct Try.underlying41
  rw [cellsN] at hl
  match cs, hl with
  | c0 :: c1 :: c2 :: c3 :: c4 :: r, hl =>
    obtain ⟨a, ha, _⟩ := (hf 0 _ rfl).int Try.underlying3
    obtain ⟨b, hb, _⟩ := (hf 1 _ rfl).int Try.underlying3
    obtain ⟨c, hc, _⟩ := (hf 2 _ rfl).int Try.underlying3
    obtain ⟨d, hd, _⟩ := (hf 3 _ rfl).int Try.underlying3
    obtain ⟨e, he, _⟩ := (hf 4 _ rfl).int Try.underlying3
    obtain ⟨l, hl2, hl3⟩ := (hf 5 _ rfl).bytes Try.underlying39 Try.underlying5 cellsU cellsH
    simp [cellsI] at ha hb hc hd he
    simp [cellsH] at hl2
    simp at hl
    rw [List.take_of_length_le (by omega)] at hl2
    exact ⟨⟨a, b, c, d, e, l⟩, by simp [inoC, ha, hb, hc, hd, he, hl2], hl3⟩
/-- An argument that is a row of inodes. -/
theorem open_inos {H : Type} {enc : TypeId × Value → H} {w : World} {v : Value} (h : Fit enc Try.prog w 22 v.cells.toList) (hv : ∃ ao n c, v = .slice ao n c) : ∃ xs, (Rows inoC 37 w v xs ∧ ∀ x ∈ xs, x.root.length = 32) ∧ xs.length ≤ 1954687338211 := by
  obtain ⟨xs, h1, h2⟩ := h.row (size := 37) (cells := inoC) (ok := fun x => x.root.length = 32) Try.underlying22 cellsN (by omega) (fun cs hc => ino_open hc) hv
  have hb : Try.prog.bytesOf 41 = 72 := by kernel_rfl
  refine ⟨xs, ⟨Rows.ofIsRow h1 fun x hx => inoC_length hx, fun y hy => ?_⟩, by rw [hb] at h2; omega⟩
  obtain ⟨_, _, _, _, _, e4⟩ := h1
  obtain ⟨i, hi, rfl⟩ := List.getElem_of_mem hy
  exact (e4 i xs[i] (by simp [hi])).1
def inoA : Ino := ⟨1, 0, 1, 2, 258, List.replicate 32 0⟩
def inoZ : Ino := ⟨0, 0, 0, 0, 0, List.replicate 32 0⟩
theorem builtA : Try.prog.built 41 [(0, .int .i64 1), (1, .int .i64 0), (2, .int .i64 1), (3, .int .i64 2), (4, .int .i64 258)] = some (inoC inoA).toArray := by kernel_rfl
theorem wpList_buildN {ops : Array Oper} {rest : List Oper} {o : Oper} {a : Act} {w : World} {Q : Exit → Act → World → Prop} (hg : o.guard = none) (parts : Array (Nat × Operand)) (ho : o.op = .build 41 parts) (l : List (Nat × Value)) (X : Ino) (hb : Try.prog.built 41 l = some (inoC X).toArray) (hl : (parts.map fun (i, x) => (i, a.eval x)).toList = l)
    (h : wpList Try.prog ops Q rest (a.put o.dst (.agg (inoC X).toArray)) w) : wpList Try.prog ops Q (o :: rest) a w := by
  refine wpList_plain hg fun _ hK => ?_
  rw [← hl] at hb
  refine wp_build 41 _ ho (by rw [hb]; rfl) ?_
  rw [hb]
  exact hK _ _ h
theorem made_I1 : madeCells (Value.agg (inoC inoZ).toArray).cells 37 = (inoC inoZ).toArray := by kernel_rfl
theorem make_I1 (w : World) : (Instr.makeSlice 22 (.int .i64 1) (.int .i64 1)).run Try.prog w = .ok (.slice (some ⟨w.heap.size, 0, none⟩) 1 1) (w.alloc (.cells (inoC inoZ).toArray 41)) := by
  have h : (Try.prog.info? 41).map (fun i => (i.zero, i.size, i.bytes)) = some (some (Value.agg (inoC inoZ).toArray), 37, 72) := by kernel_rfl
  cases hi : Try.prog.info? 41 with
  | none => rw [hi] at h; simp at h
  | some i =>
    rw [hi] at h
    simp only [Option.map_some, Option.some.injEq, Prod.mk.injEq] at h
    have := run_make (P := Try.prog) w 22 41 i _ Try.underlying22 hi h.1 .i64 .i64 1 1 (by omega) (by omega) (by rw [h.2.2]; omega) (by omega)
    rw [this, h.2.1]
    show Result.ok _ (w.alloc (.cells (madeCells (Value.agg (inoC inoZ).toArray).cells 37) 41)) = _
    rw [made_I1]
    rfl
theorem rows_one (w : World) (x : Ino) (hx : x.root.length = 32) : Rows inoC 37 (w.alloc (.cells (inoC x).toArray 41)) (.slice (some ⟨w.heap.size, 0, none⟩) 1 1) [x] :=
  ⟨_, 1, rfl, Nat.le_refl _, fun _ => ⟨_, 0, rfl, by rw [show rowOf inoC [x] = inoC x by simp [rowOf]]; exact range_of_row (heap_alloc_new w _)⟩, fun y hy => by rw [List.mem_singleton.1 hy]; exact inoC_length hx⟩
theorem getT_cases (s : List UInt8) : (getT s).2 = 0 ∨ getT s = ([], 1400) := by
  unfold getT
  split
  · exact .inr rfl
  · split
    · exact .inl rfl
    · exact .inr rfl

set_option maxRecDepth 100000 in
set_option maxHeartbeats 4000000 in
theorem awake14 (w : World) : Calls Try.prog 19 #[] w fun e w' => e = .returned (.bool true) ∧ Pure w w' := by
  have rA : inoA.root.length = 32 := by decide
  have rZ : inoZ.root.length = 32 := by decide
  have tA : tabB [inoA] = true := by decide
  have tZ : tabB [inoZ] = false := by decide
  have gA := getT_tabE (xs := [inoA]) (by intro x hx; rw [List.mem_singleton.1 hx]; exact rA) tA
  have pA : putT [inoA] = (tabE [inoA], 0) := by rw [putT, if_pos tA]
  have pZ : putT [inoZ] = ([], 1400) := by rw [putT, if_neg (by rw [tZ]; decide)]
  have eA : tabE [inoA] = [84, 1, 1, 0, 1, 2, 1, 2] ++ List.replicate 32 0 := by decide
  have gB : getT [84, 1] = ([], 1400) := by rw [getT, if_pos (by decide)]
  obtain ⟨T, hT⟩ : ∃ T, T = tabE [inoA] := ⟨_, rfl⟩
  rw [← hT] at gA pA eA
  have hTl : T.length = 40 := by rw [eA]; decide
  have ex : (bstr T).extract 0 8 = (⟨#[84, 1, 1, 0, 1, 2, 1, 2]⟩ : ByteArray) := by rw [bstr_ext, eA]; rfl
  obtain ⟨n, hn⟩ : ∃ n, n = 40 := ⟨_, rfl⟩
  have zT : (bstr T).size = n := by rw [bstr_size, hTl, hn]
  have q1 : ((n : Int) == 40) = true := by rw [hn]; rfl
  have q2 : (n == 40) = true := by rw [hn]; rfl
  have q3 : (8 : Int) ≤ n := by omega
  have HPA := Lib.hid (fun W V (h : Rows inoC 37 W V [inoA]) => Put_any W V [inoA] h (by intro x hx; rw [List.mem_singleton.1 hx]; exact rA) (by simp))
  have HPZ := Lib.hid (fun W V (h : Rows inoC 37 W V [inoZ]) => Put_any W V [inoZ] h (by intro x hx; rw [List.mem_singleton.1 hx]; exact rZ) (by simp))
  have HMA := Lib.hid (fun W V (h : Rows inoC 37 W V [inoA]) => May_any W V [inoA] h (by intro x hx; rw [List.mem_singleton.1 hx]; exact rA) (by simp))
  have HGA := Lib.hid (fun W => Get_any W T (by omega))
  have HGB : Hid (∀ W, Calls Try.prog 12 #[.string ⟨#[84, 1]⟩] W fun e w' => ∃ r, e = .returned (.tuple #[r, .int .i64 1400]) ∧ Rows inoC 37 w' r [] ∧ Pure W w') := Lib.hid fun W => by
    have := Get_any W [84, 1] (by decide)
    rw [gB] at this
    exact this
  have HSA := Lib.hid (fun W V U (h : Rows inoC 37 W V [inoA]) (k : Rows inoC 37 W U [inoA]) => SameInodes_any W V U [inoA] h k (by intro x hx; rw [List.mem_singleton.1 hx]; exact rA) (by simp))
  rw [pA] at HPA
  rw [pZ] at HPZ
  rw [gA] at HGA
  rw [tA] at HMA
  have hCA := inoC_length rA
  obtain ⟨iN, zN, HIN, hzN, hszN, hbyN, hzsN⟩ := partsN
  have R1 := Lib.hid (rows_one w inoA rA)
  have PT := Lib.hid (((Turn.refl (fun _ => False) w).alloc (.cells (inoC inoA).toArray 41)))
  clear gA pA pZ tA tZ eA gB hT hTl hn
  go_enter Try.func19, Try.ntmps19
  go_wp2_with (first | (refine wpList_buildN rfl _ rfl _ inoA builtA (by simp [Act.eval]) ?_) | (refine wpList_buildSlice_one rfl 22 41 _ rfl iN _ 37 (inoC inoA) Try.underlying22 HIN.out hzN hszN (by decide) (by decide) rfl hCA ?_))
  generalize w.alloc (.cells (inoC inoA).toArray 41) = w0 at *
  generalize w.heap.size = g0 at *
  refine (HPA.out _ _ R1.out).mono ?_
  rintro e w1 ⟨rfl, t1⟩
  have PT := Lib.hid (PT.out.pure t1); have R1 := Lib.hid (R1.out.pure t1)
  clear t1
  go_wp2_with fail
  refine (HGA.out _).mono ?_
  rintro e w2 ⟨r2, rfl, R2, t2⟩
  have PT := Lib.hid (PT.out.pure t2); have R1 := Lib.hid (R1.out.pure t2); have R2 := Lib.hid R2
  clear t2
  have mk := make_I1 w2
  have R3 := Lib.hid (rows_one w2 inoZ rZ)
  have hA : Pure w2 (w2.alloc (.cells (inoC inoZ).toArray 41)) := (Turn.refl _ _).alloc _
  have PT := Lib.hid (PT.out.pure hA); have R1 := Lib.hid (R1.out.pure hA); have R2 := Lib.hid (R2.out.pure hA)
  clear hA
  go_wp2_with fail
  clear mk
  generalize w2.alloc (.cells (inoC inoZ).toArray 41) = w3 at *
  generalize w2.heap.size = g3 at *
  refine (HPZ.out _ _ R3.out).mono ?_
  rintro e w4 ⟨rfl, t4⟩
  have PT := Lib.hid (PT.out.pure t4); have R1 := Lib.hid (R1.out.pure t4); have R2 := Lib.hid (R2.out.pure t4)
  clear t4 R3
  go_wp2_with fail
  refine (HGB.out _).mono ?_
  rintro e w5 ⟨r5, rfl, _, t5⟩
  have PT := Lib.hid (PT.out.pure t5); have R1 := Lib.hid (R1.out.pure t5); have R2 := Lib.hid (R2.out.pure t5)
  clear t5
  go_wp2_with fail
  refine (Num_any _ _).mono ?_
  rintro e w6 ⟨rfl, rfl⟩
  go_wp2_with fail
  refine (HSA.out _ _ _ R2.out R1.out).mono ?_
  rintro e w6 ⟨rfl, t6⟩
  have PT := Lib.hid (PT.out.pure t6); have R1 := Lib.hid (R1.out.pure t6)
  clear t6
  go_wp2_with fail
  refine (Num_any _ _).mono ?_
  rintro e w7 ⟨rfl, rfl⟩
  go_wp2_with fail
  refine (Num_any _ _).mono ?_
  rintro e w7 ⟨rfl, rfl⟩
  go_wp2_with fail
  refine (Num_any _ _).mono ?_
  rintro e w7 ⟨rfl, rfl⟩
  go_wp2_with fail
  refine (HMA.out _ _ R1.out).mono ?_
  rintro e w7 ⟨rfl, t7⟩
  have PT := Lib.hid (PT.out.pure t7)
  clear t7
  go_wp2
  go_ret
  exact ⟨rfl, PT.out⟩

set_option maxRecDepth 100000 in
set_option maxHeartbeats 4000000 in
theorem Itabs_any (w : World) (V : Value) (xs : List Ino) (s : List UInt8) (h : Rows inoC 37 w V xs) (hr : ∀ x ∈ xs, x.root.length = 32) (hlen : xs.length ≤ 1954687338211) (hs : s.length ≤ 140737488351232) :
    Calls Try.prog 3 #[V, .string (bstr s)] w fun e w' => e = .returned (.bool true) ∧ Pure w w' := by
  have hroot : ∀ x ∈ (getT s).1, x.root.length = 32 := by
    rcases getT_cases s with h | h
    · exact (putT_getT h).2
    · rw [h]; intro x hx; simp at hx
  have hgl : (getT s).1.length ≤ 4398046510976 := by
    unfold getT
    split
    · simp
    · split
      · simp only [tabD_length]; have := (s.getD 1 0).toNat_lt; omega
      · simp
  have HL := Lib.hid (LendInodes_any w V xs h hlen)
  have HP1 := Lib.hid (fun W U (h : Rows inoC 37 W U xs) => Put_any W U xs h hr (by omega))
  have HP2 := Lib.hid (fun W U (h : Rows inoC 37 W U xs) => PutItab_any W U xs h hr (by omega))
  have HM1 := Lib.hid (fun W U (h : Rows inoC 37 W U xs) => May_any W U xs h hr (by omega))
  have HM2 := Lib.hid (fun W U (h : Rows inoC 37 W U xs) => ItabMay_any W U xs h hr (by omega))
  have HG1 := Lib.hid (fun W => Get_any W s hs)
  have HG2 := Lib.hid (fun W => GetItab_any W s hs)
  have HSM := Lib.hid (fun W U U' (h : Rows inoC 37 W U (getT s).1) (k : Rows inoC 37 W U' (getT s).1) => SameInodes_any W U U' _ h k hroot hgl)
  have HK := Lib.hid (fun W U U' (h : LentI W U xs) (k : Rows inoC 37 W U' xs) => KeptInodes_any W U U' xs h k hr hlen)
  have R0 := Lib.hid h
  obtain ⟨ao, c, rfl, _⟩ := h.at_
  generalize (getT s).1 = GS at *
  generalize (getT s).2 = GE at *
  generalize (putT xs).1 = PS at *
  generalize (putT xs).2 = PE at *
  generalize tabB xs = TB at *
  clear h hr hroot hgl
  go_enter Try.func3, Try.ntmps3
  go_wp2_with fail
  refine (HL.out).mono ?_
  rintro e w1 ⟨r, rfl, hL, t1⟩
  have PT := Lib.hid t1; have R0 := Lib.hid (R0.out.pure t1); have HLE := Lib.hid hL
  obtain ⟨lo, lc, rfl, _⟩ := hL.rows.at_
  clear t1 hL
  go_wp2_with fail
  refine (HP1.out _ _ HLE.out.rows).mono ?_
  rintro e w2 ⟨rfl, t2⟩
  have PT := Lib.hid (PT.out.pure t2); have R0 := Lib.hid (R0.out.pure t2); have HLE := Lib.hid (HLE.out.pure t2)
  clear t2
  go_wp2_with fail
  refine (HP2.out _ _ R0.out).mono ?_
  rintro e w3 ⟨rfl, t3⟩
  have PT := Lib.hid (PT.out.pure t3); have R0 := Lib.hid (R0.out.pure t3); have HLE := Lib.hid (HLE.out.pure t3)
  clear t3
  go_wp2_with fail
  refine (HG1.out _).mono ?_
  rintro e w4 ⟨ra, rfl, RA, t4⟩
  have PT := Lib.hid (PT.out.pure t4); have R0 := Lib.hid (R0.out.pure t4); have HLE := Lib.hid (HLE.out.pure t4); have RA := Lib.hid RA
  clear t4
  go_wp2_with fail
  refine (HG2.out _).mono ?_
  rintro e w5 ⟨rb, rfl, RB, t5⟩
  have PT := Lib.hid (PT.out.pure t5); have R0 := Lib.hid (R0.out.pure t5); have HLE := Lib.hid (HLE.out.pure t5); have RA := Lib.hid (RA.out.pure t5); have RB := Lib.hid RB
  clear t5
  go_wp2_with fail
  refine (Num_any _ _).mono ?_
  rintro e w6 ⟨rfl, rfl⟩
  go_wp2_with fail
  refine (HSM.out _ _ _ RA.out RB.out).mono ?_
  rintro e w6 ⟨rfl, t6⟩
  have PT := Lib.hid (PT.out.pure t6); have R0 := Lib.hid (R0.out.pure t6); have HLE := Lib.hid (HLE.out.pure t6)
  clear t6
  go_wp2_with fail
  refine (Num_any _ _).mono ?_
  rintro e w7 ⟨rfl, rfl⟩
  go_wp2_with fail
  refine (HM1.out _ _ HLE.out.rows).mono ?_
  rintro e w7 ⟨rfl, t7⟩
  have PT := Lib.hid (PT.out.pure t7); have R0 := Lib.hid (R0.out.pure t7); have HLE := Lib.hid (HLE.out.pure t7)
  clear t7
  go_wp2_with fail
  refine (HM2.out _ _ R0.out).mono ?_
  rintro e w8 ⟨rfl, t8⟩
  have PT := Lib.hid (PT.out.pure t8); have R0 := Lib.hid (R0.out.pure t8); have HLE := Lib.hid (HLE.out.pure t8)
  clear t8
  go_wp2_with fail
  refine (HK.out _ _ _ HLE.out R0.out).mono ?_
  rintro e w9 ⟨rfl, t9⟩
  have PT := Lib.hid (PT.out.pure t9)
  clear t9
  go_wp2_with fail
  refine (awake14 _).mono ?_
  rintro e wa ⟨rfl, ta⟩
  have PT := Lib.hid (PT.out.pure ta)
  clear ta
  go_wp2
  go_ret
  exact ⟨rfl, PT.out⟩
end Go.Proofs.Ythfekopimmgdmaa
