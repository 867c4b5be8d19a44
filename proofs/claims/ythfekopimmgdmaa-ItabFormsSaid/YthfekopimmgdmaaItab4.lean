/- Chapter 14: an inode is read. -/
import Derived.Test.YthfekopimmgdmaaItab3
namespace Go.Proofs.Ythfekopimmgdmaa
open Go.RowKit

theorem rdNum_one (a : UInt8) (t : List UInt8) : rdNum (a :: t) 1 = ((a.toNat : Int), 0, t) := by
  rw [rdNum, if_pos (show sizedB 1 = true from rfl), if_pos (by simp)]
  simp [numB]
theorem rdNum_two (a b : UInt8) (t : List UInt8) : rdNum (a :: b :: t) 2 = (((a.toNat * 256 + b.toNat : Nat) : Int), 0, t) := by
  rw [rdNum, if_pos (show sizedB 2 = true from rfl), if_pos (by simp)]
  simp [numB]
theorem rdNum_one_len (s : List UInt8) : (rdNum s 1).2.2.length = s.length - 1 := by
  match s with
  | [] => rfl
  | a :: t => rw [rdNum_one]; simp
theorem rdNum_two_len (s : List UInt8) : (rdNum s 2).2.2.length = if 2 ≤ s.length then s.length - 2 else s.length := by
  match s with
  | [] => rfl
  | [a] => rfl
  | a :: b :: t => rw [rdNum_two, if_pos (by simp)]; simp
/-- What stands behind so many numbers of one byte. -/
def restV (s : List UInt8) : Nat → List UInt8
  | 0 => s
  | n + 1 => (rdNum (restV s n) 1).2.2
theorem restV_len (s : List UInt8) (n : Nat) : (restV s n).length = s.length - n := by
  induction n with
  | zero => rfl
  | succ n ih => rw [restV, rdNum_one_len, ih]; omega
def oneV (s : List UInt8) (n : Nat) : Int := (rdNum (restV s n) 1).1
def sizV (s : List UInt8) : Int := (rdNum (restV s 4) 2).1
def tailV (s : List UInt8) : List UInt8 := (rdNum (restV s 4) 2).2.2
/-- An inode that is read, the error, what is left. -/
def rdIno (s : List UInt8) : Ino × Int × List UInt8 := (⟨oneV s 0, oneV s 1, oneV s 2, oneV s 3, sizV s, (rdHash (tailV s)).1⟩, (rdHash (tailV s)).2.1, (rdHash (tailV s)).2.2)
theorem rdHash_len (s : List UInt8) : (rdHash s).1.length = 32 := by
  unfold rdHash
  split
  · simp; omega
  · simp
theorem rdIno_ok {s : List UInt8} (h : 38 ≤ s.length) : rdIno s = (inoD s, 0, s.drop 38) := by
  match s, h with
  | a :: b :: c :: d :: e :: f :: t, h =>
    have h0 : restV (a :: b :: c :: d :: e :: f :: t) 0 = a :: b :: c :: d :: e :: f :: t := rfl
    have h1 : restV (a :: b :: c :: d :: e :: f :: t) 1 = b :: c :: d :: e :: f :: t := by rw [restV, h0, rdNum_one]
    have h2 : restV (a :: b :: c :: d :: e :: f :: t) 2 = c :: d :: e :: f :: t := by rw [restV, h1, rdNum_one]
    have h3 : restV (a :: b :: c :: d :: e :: f :: t) 3 = d :: e :: f :: t := by rw [restV, h2, rdNum_one]
    have h4 : restV (a :: b :: c :: d :: e :: f :: t) 4 = e :: f :: t := by rw [restV, h3, rdNum_one]
    simp only [List.length_cons] at h
    rw [rdIno, oneV, oneV, oneV, oneV, sizV, tailV, h0, h1, h2, h3, h4, rdNum_one, rdNum_one, rdNum_one, rdNum_one, rdNum_two, rdHash, if_pos (by simp only; omega)]
    rfl
theorem rdIno_bad {s : List UInt8} (h : s.length < 38) : (rdIno s).2.1 = 300 := by
  have h4 := restV_len s 4
  have ht : (tailV s).length < 32 := by
    rw [tailV, rdNum_two_len]
    split <;> omega
  rw [rdIno, rdHash, if_neg (by omega)]
/-- What reading an inode tells. -/
structure RdIno (s : List UInt8) (X : Ino) (e : Int) (r : List UInt8) : Prop where
  ok : 38 ≤ s.length → X = inoD s ∧ e = 0 ∧ r = s.drop 38
  bad : s.length < 38 → e = 300
theorem rdIno_prop (s : List UInt8) : RdIno s ⟨oneV s 0, oneV s 1, oneV s 2, oneV s 3, sizV s, (rdHash (tailV s)).1⟩ (rdHash (tailV s)).2.1 (rdHash (tailV s)).2.2 := by
  refine ⟨fun h => ?_, fun h => ?_⟩
  · have := rdIno_ok h
    simp only [rdIno, Prod.mk.injEq] at this
    exact this
  · have := rdIno_bad h
    simp only [rdIno] at this
    exact this
theorem num_at (g : Nat) (s : List UInt8) (k : Nat) (W : World) (h : IsRd 117 W g (restV s k)) : Calls Try.prog 35 #[.pointer (some ⟨g, 0, none⟩), .int .i64 1] W fun e w' => e = .returned (.tuple #[.int .i64 (oneV s k), .int .i64 (rdNum (restV s k) 1).2.1]) ∧ Read 117 W w' g (restV s (k + 1)) := by
  have := RNum_any W g (restV s k) 1 h
  simp only [oneV, restV]
  exact this
theorem siz_at (g : Nat) (s : List UInt8) (W : World) (h : IsRd 117 W g (restV s 4)) : Calls Try.prog 35 #[.pointer (some ⟨g, 0, none⟩), .int .i64 2] W fun e w' => e = .returned (.tuple #[.int .i64 (sizV s), .int .i64 (rdNum (restV s 4) 2).2.1]) ∧ Read 117 W w' g (tailV s) := by
  obtain ⟨m, hm⟩ : ∃ m, m = 4 := ⟨_, rfl⟩
  simp only [sizV, tailV]
  rw [← hm] at h ⊢
  exact RNum_any W g (restV s m) 2 h
theorem inode_parts (g : Nat) (s : List UInt8) : ∃ (f : Nat → Int) (R : Nat → List UInt8) (E : Nat → Int) (Z E5 : Int) (T HV : List UInt8) (EH : Int) (SH : List UInt8), R 0 = s ∧
    (∀ k W, IsRd 117 W g (R k) → Calls Try.prog 35 #[.pointer (some ⟨g, 0, none⟩), .int .i64 1] W fun e w' => e = .returned (.tuple #[.int .i64 (f k), .int .i64 (E k)]) ∧ Read 117 W w' g (R (k + 1))) ∧
    (∀ W, IsRd 117 W g (R 4) → Calls Try.prog 35 #[.pointer (some ⟨g, 0, none⟩), .int .i64 2] W fun e w' => e = .returned (.tuple #[.int .i64 Z, .int .i64 E5]) ∧ Read 117 W w' g T) ∧
    (∀ W, IsRd 117 W g T → Calls Try.prog 52 #[.pointer (some ⟨g, 0, none⟩)] W fun e w' => e = .returned (.tuple #[hv HV, .int .i64 EH]) ∧ Read 117 W w' g SH) ∧
    HV.length = 32 ∧ RdIno s ⟨f 0, f 1, f 2, f 3, Z, HV⟩ EH SH :=
  ⟨oneV s, restV s, fun k => (rdNum (restV s k) 1).2.1, sizV s, (rdNum (restV s 4) 2).2.1, tailV s, (rdHash (tailV s)).1, (rdHash (tailV s)).2.1, (rdHash (tailV s)).2.2, by rw [restV], num_at g s, siz_at g s, fun W h => RHash_any W g (tailV s) h, rdHash_len _, rdIno_prop s⟩
theorem heap_set_cell {w : World} {g k : Nat} {cs : Array Value} {T : TypeId} {fr : Nat × Nat} {v : Value} (h : w.heap[g]? = some (.cells cs T fr)) : (w.setCell ⟨g, k, none⟩ v).heap[g]? = some (.cells (cs.setIfInBounds k v) T fr) := by
  simp only [World.setCell, Array.getElem?_modify, if_true, h, Option.map_some]
  rfl
/-- How far the inode is read behind k numbers. -/
def stI (f : Nat → Int) (k : Nat) : Ino := ⟨if 0 < k then f 0 else 0, if 1 < k then f 1 else 0, if 2 < k then f 2 else 0, if 3 < k then f 3 else 0, 0, List.replicate 32 0⟩
theorem setI {w : World} {g : Nat} {s : Nat → Int} {k : Nat} (hk : k < 4) (h : w.heap[g]? = some (.cells (inoC (stI s k)).toArray 41 (0, 0))) :
    (w.setCell ⟨g, k, none⟩ (.int .i64 (s k))).heap[g]? = some (.cells (inoC (stI s (k + 1))).toArray 41 (0, 0)) := by
  rw [heap_set_cell h]
  rcases (by omega : k = 0 ∨ k = 1 ∨ k = 2 ∨ k = 3) with rfl | rfl | rfl | rfl <;> simp [inoC, stI]
theorem storeI {w : World} {g : Nat} {x : Ino} (k : Nat) (hk : k < 5) (h : w.heap[g]? = some (.cells (inoC x).toArray 41 (0, 0))) : (∃ v, w.cell? ⟨g, k, none⟩ = some v ∧ v.oneCell' = true) ∧ w.frozen? ⟨g, k, none⟩ = false := by
  rw [cell_of_row w g k _ _ _ h, frozen_of_row w g k _ _ h]
  refine ⟨?_, rfl⟩
  rcases (by omega : k = 0 ∨ k = 1 ∨ k = 2 ∨ k = 3 ∨ k = 4) with rfl | rfl | rfl | rfl | rfl <;> exact ⟨_, rfl, rfl⟩
/-- A hash's cells. -/
abbrev hv5 (l : List UInt8) : Array Value := (u8s l).toArray
theorem zeroN0 : (Try.prog.info? 41).bind (·.zero) = some (Value.agg (inoC ⟨0, 0, 0, 0, 0, List.replicate 32 0⟩).toArray) := by kernel_rfl
/-- One of four places. -/
theorem ixP (w : World) (vs : List Value) (k : Nat) (v : Value) (hv : vs[k]? = some v) (hk : k < 4) : (Instr.index 121 (.agg vs.toArray) (.int .i64 (k : Int))).run Try.prog w = .ok v w := by
  simp [Instr.index, run_underlying Try.underlying121, run_underlying Try.underlying120, asIntOf, part, isAgg, hv, hk]

/-- Bytes are written into the middle of a block. -/
theorem wpList_store_in {P : Program} {ops : Array Oper} {rest : List Oper} {op : Oper} {a : Act} {w : World} {Q : Exit → Act → World → Prop} (hgd : op.guard = none) (ty : TypeId) (x y : Operand) (ho : op.op = .store ty x y)
    (g o : Nat) (l : List UInt8) (old : List Value) (T : TypeId) (hx : a.eval x = .pointer (some ⟨g, o, none⟩)) (hy : a.eval y = hv l) (hg : w.heap[g]? = some (.cells old.toArray T (0, 0))) (hl : o + l.length ≤ old.length)
    (hi : (P.info? ty).map (·.size) = some (u8s l).length)
    (h : ∀ w', w'.heap[g]? = some (.cells (old.take o ++ u8s l ++ old.drop (o + l.length)).toArray T (0, 0)) → Turn (fun k => k = g) w w' → wpList P ops Q rest (a.put op.dst undef) w') : wpList P ops Q (op :: rest) a w := by
  refine wpList_store_mid hgd ty x y ho g o (u8s l).toArray hx hy ?_ (by simpa using hi) (all_oneCell_toArray (u8s_one _)) (h _ ?_ ?_)
  · intro j hj
    rw [cell_of_row w g (o + j) _ T (0, 0) hg, frozen_of_row w g (o + j) _ T hg]
    exact ⟨by simp [u8s_length] at hj ⊢; omega, rfl⟩
  · have := setCells_heap g (u8s l) o w _ T (0, 0) hg (by rw [u8s_length]; simpa using hl)
    rw [u8s_length] at this
    simpa using this
  · exact ⟨World.os_setCells _ _ _ _, setCells_tape _ _ _ _, World.output_setCells _ _ _ _, by rw [setCells_size]; exact Nat.le_refl _, fun q hq hn => World.heap_setCells_other w g _ _ hq hn⟩

set_option maxRecDepth 100000 in
set_option maxHeartbeats 4000000 in
theorem inode_any (w : World) (g : Nat) (s : List UInt8) (h : IsRd 117 w g s) :
    Calls Try.prog 38 #[.pointer (some ⟨g, 0, none⟩)] w fun e w' => ∃ X err r, e = .returned (.tuple #[.agg (inoC X).toArray, .int .i64 err]) ∧ X.root.length = 32 ∧ RdIno s X err r ∧ Read 117 w w' g r := by
  have hlt := h.lt
  obtain ⟨f, R, E, Z, E5, T, HV, EH, SH, hR0, hc1, hc2, hc3, hHl, hfin⟩ := inode_parts g s
  have hz : (Try.prog.info? 41).bind (·.zero) = some (Value.agg (inoC (stI f 0)).toArray) := by
    have h0 : stI f 0 = ⟨0, 0, 0, 0, 0, List.replicate 32 0⟩ := by simp [stI]
    rw [h0]
    exact zeroN0
  have hl0 : (inoC (stI f 0)).length = 37 := inoC_length (by simp [stI])
  have hXl : (inoC ⟨f 0, f 1, f 2, f 3, Z, HV⟩).length = 37 := inoC_length hHl
  have hXo := inoC_one ⟨f 0, f 1, f 2, f 3, Z, HV⟩
  have hC : inoC ⟨f 0, f 1, f 2, f 3, Z, HV⟩ = [.int .i64 (f 0), .int .i64 (f 1), .int .i64 (f 2), .int .i64 (f 3), .int .i64 Z] ++ u8s HV := rfl
  obtain ⟨C, hCd⟩ : ∃ C, C = inoC ⟨f 0, f 1, f 2, f 3, Z, HV⟩ := ⟨_, rfl⟩
  rw [← hCd] at hXl hXo hC
  rw [← hR0] at h
  have HZ := Lib.hid hz; have HRD := Lib.hid h; have HCX := Lib.hid hC; have HC1 := Lib.hid hc1; have HR4 := Lib.hid hc2; have HH := Lib.hid hc3
  have HFIN : Hid (∃ X err r, Ending.returned (.tuple #[.agg C.toArray, .int .i64 EH]) = .returned (.tuple #[.agg (inoC X).toArray, .int .i64 err]) ∧ X.root.length = 32 ∧ RdIno s X err r ∧ r = SH) := Lib.hid ⟨⟨f 0, f 1, f 2, f 3, Z, HV⟩, EH, SH, by rw [hCd], hHl, hfin, rfl⟩
  clear hz h hC hCd hR0 hc1 hc2 hc3 hfin
  go_enter Try.func38, Try.ntmps38
  go_wp2_with (refine wpList_allocZ rfl 41 rfl (inoC (stI f 0)) HZ.out ?_)
  intro g2 w1 e1 c1 t1 s1
  have l2 : w.heap.size ≤ g2 := by omega
  have n2 : g2 ≠ g := by omega
  clear e1
  have D2 := Lib.hid c1; have PT := Lib.hid t1
  clear c1 t1
  go_wp2_with (refine wpList_allocZ rfl 41 rfl (inoC (stI f 0)) HZ.out ?_)
  intro g4 w2 e2 c2 t2 s2
  have l4 : g2 < g4 := by omega
  have n4 : g4 ≠ g := by omega
  clear e2 s1 s2
  have D4 := Lib.hid c2; have D2 := Lib.hid (t2.obj D2.out (fun e => e)); have PT := Lib.hid (PT.out.pure t2)
  clear c2 t2
  have RD : Hid (Read 117 w w2 g (R 0)) := Lib.hid (Read.same HRD.out PT.out)
  clear PT HRD
  go_wp2
  go_loopw [13] (fun i wr => ∃ k : Nat, k ≤ 4 ∧ i = .int .i64 (k : Int) ∧ Hid (wr.heap[g4]? = some (.cells (inoC (stI f k)).toArray 41 (0, 0))) ∧ Hid (wr.heap[g2]? = some (.cells (inoC (stI f 0)).toArray 41 (0, 0))) ∧ Hid (Read 117 w wr g (R k))) (fun i _ => 4 - (intOf i).toNat)
  case atStart => exact ⟨0, by omega, rfl, D4, D2, RD⟩
  case round =>
    obtain ⟨k, hk, rfl, D4, D2, RD⟩ := hrel
    by_cases h4 : k = 4
    · subst h4
      go_wp2_with fail
      refine (HR4.out _ RD.out.rd).mono ?_
      rintro e w5 ⟨rfl, r5⟩
      have D4 := Lib.hid (r5.turn.obj D4.out n4); have D2 := Lib.hid (r5.turn.obj D2.out n2); have RD := Lib.hid (RD.out.trans r5)
      clear r5 HR4
      obtain ⟨⟨v4, k4, o4⟩, f4⟩ := storeI 4 (by decide) D4.out
      have hD4 : (w5.setCell ⟨g4, 4, none⟩ (.int .i64 Z)).heap[g4]? = some (.cells (inoC ⟨f 0, f 1, f 2, f 3, Z, List.replicate 32 0⟩).toArray 41 (0, 0)) := by rw [heap_set_cell D4.out]; simp [inoC, stI]
      have hT : Turn (fun q => q = g4) w5 (w5.setCell ⟨g4, 4, none⟩ (.int .i64 Z)) := (Turn.refl (fun q => q = g4) w5).setCell (p := ⟨g4, 4, none⟩) (fun _ => rfl) _
      have RD6 : Hid (Read 117 w (w5.setCell ⟨g4, 4, none⟩ (.int .i64 Z)) g T) := Lib.hid ⟨RD.out.rd.turn hT (Ne.symm n4), RD.out.turn.trans hT fun q hq e => by omega⟩
      have D26 := Lib.hid (hT.obj D2.out (by omega))
      have D46 := Lib.hid hD4
      clear hD4 hT D4 D2 RD
      go_wp2_with fail
      generalize w5.setCell ⟨g4, 4, none⟩ (.int .i64 Z) = w6 at *
      clear k4 f4
      refine (HH.out _ RD6.out.rd).mono ?_
      rintro e w7 ⟨rfl, r7⟩
      have D4 := Lib.hid (r7.turn.obj D46.out n4); have D2 := Lib.hid (r7.turn.obj D26.out n2); have RD := Lib.hid (RD6.out.trans r7)
      clear r7 HH D46 D26 RD6
      go_wp2_with (refine wpList_store_in rfl 39 _ _ rfl g4 5 HV _ _ rfl rfl D4.out (by simp [inoC, u8s_length, hHl]) (info28_l hHl) ?_)
      intro w8 d8 t8
      have hD4 : w8.heap[g4]? = some (.cells C.toArray 41 (0, 0)) := by
        rw [d8, HCX.out]
        simp [inoC, u8s_length]
      have RD8 : Hid (Read 117 w w8 g SH) := Lib.hid ⟨RD.out.rd.turn t8 (Ne.symm n4), RD.out.turn.trans t8 fun q hq e => by omega⟩
      have D28 := Lib.hid (t8.obj D2.out (by omega))
      have D48 := Lib.hid hD4
      clear hD4 t8 D4 D2 RD d8
      have R4 := Lib.hid (range_of_row D48.out)
      clear D48
      go_wp2_with (first | (refine wpList_load_mid rfl 41 _ rfl g4 0 rfl C _ R4.out Try.underlying41 rfl (by rw [infoN, hXl]) ?_) | (refine wpList_store_blk rfl 41 _ _ rfl g2 _ C _ rfl rfl D28.out (by simp [hl0, hXl]) (by rw [infoN, hXl]) hXo ?_))
      intro w9 c9 t9 _
      have hO := Lib.hid c9
      have RD9 : Hid (Read 117 w w9 g SH) := Lib.hid ⟨RD8.out.rd.turn t9 (Ne.symm n2), RD8.out.turn.trans t9 fun q hq e => by omega⟩
      clear c9 t9 R4 D28 RD8
      go_wp2
      obtain ⟨X, err, r, h1, h2, h3, h4⟩ := HFIN.out
      exact bodyPost_ret (v := .tuple #[.agg C.toArray, .int .i64 EH]) (results_cell2 Try.results38 _ _ g2 _ C.toArray _ _ rfl hO.out Try.underlying41 rfl (by rw [infoN, List.size_toArray, hXl])) rfl ⟨X, err, r, h1, h2, h3, by rw [h4]; exact RD9.out⟩
    · have hk4 : k < 4 := by omega
      have hix : ∀ W : World, (Instr.index 121 (.agg #[.pointer (some ⟨g4, 0, none⟩), .pointer (some ⟨g4, 1, none⟩), .pointer (some ⟨g4, 2, none⟩), .pointer (some ⟨g4, 3, none⟩)]) (.int .i64 (k : Int))).run Try.prog W = .ok (.pointer (some ⟨g4, k, none⟩)) W := fun W => ixP W [.pointer (some ⟨g4, 0, none⟩), .pointer (some ⟨g4, 1, none⟩), .pointer (some ⟨g4, 2, none⟩), .pointer (some ⟨g4, 3, none⟩)] k _ (by rcases (by omega : k = 0 ∨ k = 1 ∨ k = 2 ∨ k = 3) with rfl | rfl | rfl | rfl <;> rfl) hk4
      have q1 : (k : Int) < 4 := by omega
      have i3 : IntKind.i64.wrap ((k : Int) + 1) = ((k + 1 : Nat) : Int) := by rw [IntWalk.i64_in _ (by omega)]; omega
      clear h4
      go_wp2_with fail
      refine (HC1.out k _ RD.out.rd).mono ?_
      rintro e w5 ⟨rfl, r5⟩
      have D4 := Lib.hid (r5.turn.obj D4.out n4); have D2 := Lib.hid (r5.turn.obj D2.out n2); have RD := Lib.hid (RD.out.trans r5)
      clear r5 hix
      obtain ⟨⟨v4, kc, o4⟩, f4⟩ := storeI k (by omega) D4.out
      have hD4 := setI hk4 D4.out
      have hT : Turn (fun q => q = g4) w5 (w5.setCell ⟨g4, k, none⟩ (.int .i64 (f k))) := (Turn.refl (fun q => q = g4) w5).setCell (p := ⟨g4, k, none⟩) (fun _ => rfl) _
      have RD6 : Hid (Read 117 w (w5.setCell ⟨g4, k, none⟩ (.int .i64 (f k))) g (R (k + 1))) := Lib.hid ⟨RD.out.rd.turn hT (Ne.symm n4), RD.out.turn.trans hT fun q hq e => by omega⟩
      have D26 := Lib.hid (hT.obj D2.out (by omega))
      have D46 := Lib.hid hD4
      clear hD4 hT D4 D2 RD
      go_wp2
      exact ⟨⟨k + 1, by omega, by first | rfl | trivial | go_num, D46, D26, RD6⟩, by simp [intOf]; omega⟩
end Go.Proofs.Ythfekopimmgdmaa
