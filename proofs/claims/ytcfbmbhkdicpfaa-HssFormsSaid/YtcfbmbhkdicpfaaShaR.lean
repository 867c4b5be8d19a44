/- The reference's digest of a block. -/
import Derived.Test.YtcfbmbhkdicpfaaSha0
import Derived.BigQuiet
import Derived.Deep.QuietTactic
import Derived.Great.Walk
import Derived.StillTailTactics
namespace Go.Proofs.Ytcfbmbhkdicpfaa
open Go.RowKit

def shaKI : List Int := shaK.map fun x => (x.toNat : Int)
theorem shaKI_val : shaKI.map (Value.int .u32) = uws shaK := by simp [shaKI, uws, uw]
theorem zero8 : (Try.prog.info? 220).bind (·.zero) = some (.agg (uws (List.replicate 8 0)).toArray) := by kernel_rfl
theorem zero64 : (Try.prog.info? 230).bind (·.zero) = some (.agg (uws (List.replicate 64 0)).toArray) := by kernel_rfl

section
variable {P : Program} {ops : Array Oper} {rest : List Oper} {o : Oper} {a : Act} {w : World} {Q : Exit → Act → World → Prop}
/-- A new variable of several cells. -/
theorem wpList_allocZ (hg : o.guard = none) (t : TypeId) (ho : o.op = .alloc t) (cs : List Value) (hz : (P.info? t).bind (·.zero) = some (.agg cs.toArray))
    (h : ∀ g w', g = w.heap.size → w'.heap[g]? = some (.cells cs.toArray t (0, 0)) → Pure w w' → w'.heap.size = g + 1 → wpList P ops Q rest (a.put o.dst (.pointer (some ⟨g, 0, none⟩))) w') : wpList P ops Q (o :: rest) a w := by
  refine wpList_plain hg fun K hK => ?_
  obtain ⟨i, hi, hzi⟩ := Option.bind_eq_some_iff.1 hz
  unfold Oper.wp execOp
  simp [ho, Instr.alloc, zeroValue, typeInfo, hi, hzi, newVar, newRow, newObj, Result.andThen, Value.cells]
  exact hK _ _ (h _ _ rfl (heap_alloc_new _ _) ((Turn.refl _ _).alloc _) (by simp))
theorem wpList_boxV (hg : o.guard = none) (t : TypeId) (x : Operand) (ho : o.op = .box t x) (cs : List Value) (hx : a.eval x = .agg cs.toArray)
    (h : ∀ g w', g = w.heap.size → w'.heap[g]? = some (.cells cs.toArray t (0, 0)) → Pure w w' → w'.heap.size = g + 1 → wpList P ops Q rest (a.put o.dst (.pointer (some ⟨g, 0, none⟩))) w') : wpList P ops Q (o :: rest) a w := by
  refine wpList_plain hg fun K hK => ?_
  unfold Oper.wp execOp
  simp [ho, hx, Instr.box, newVar, newRow, newObj, Result.andThen, Value.cells]
  exact hK _ _ (h _ _ rfl (heap_alloc_new _ _) ((Turn.refl _ _).alloc _) (by simp))
end

/-- The words that are written after k rounds. -/
def wcur (s : List UInt8) (k : Nat) : List UInt32 := wordsOf s k ++ List.replicate (64 - k) 0
theorem wcur_length (s : List UInt8) (k : Nat) (h : k ≤ 64) : (wcur s k).length = 64 := by simp [wcur, wordsOf_length]; omega
theorem wcur_full (s : List UInt8) : wcur s 64 = wordsOf s 64 := by simp [wcur]
theorem wcur_set (s : List UInt8) (k : Nat) (h : k < 64) : (uws (wcur s k)).toArray.setIfInBounds k (uw (wordAt s (wordsOf s k) k)) = (uws (wcur s (k + 1))).toArray := by
  apply Array.toList_inj.1
  have r : List.replicate (64 - k) (0 : UInt32) = 0 :: List.replicate (64 - (k + 1)) 0 := by
    rw [show 64 - k = (64 - (k + 1)) + 1 from by omega, List.replicate_succ]
  have hl := wordsOf_length s k
  simp only [Array.toList_setIfInBounds, uws, wcur, wordsOf, r, List.map_append, List.map_cons, List.append_assoc, List.cons_append, List.nil_append]
  rw [List.set_append_right _ _ (by rw [List.length_map, hl]; exact Nat.le_refl _), List.length_map, hl]
  simp
theorem heap_set_cell {w : World} {g k : Nat} {cs : Array Value} {T : TypeId} {fr : Nat × Nat} {v : Value} (h : w.heap[g]? = some (.cells cs T fr)) : (w.setCell ⟨g, k, none⟩ v).heap[g]? = some (.cells (cs.setIfInBounds k v) T fr) := by
  simp only [World.setCell, Array.getElem?_modify, if_true, h, Option.map_some]
  rfl
theorem uws_cell {w : World} {g : Nat} {l : List UInt32} {T : TypeId} {fr : Nat × Nat} (h : w.heap[g]? = some (.cells (uws l).toArray T fr)) (j : Nat) (hj : j < l.length) : w.cell? ⟨g, j, none⟩ = some (.int .u32 ((l.getD j 0).toNat : Int)) := by
  rw [cell_of_row w g j _ _ _ h]
  simp [uws, uw, List.getD, hj]
theorem wcell {w : World} {g : Nat} {s : List UInt8} {k : Nat} {T : TypeId} {fr : Nat × Nat} (h : w.heap[g]? = some (.cells (uws (wcur s k)).toArray T fr)) (j : Nat) (hj : j < k) (hk : k ≤ 64) : w.cell? ⟨g, j, none⟩ = some (.int .u32 (((wordsOf s k).getD j 0).toNat : Int)) := by
  rw [uws_cell h j (by rw [wcur_length s k hk]; omega)]
  have : (wcur s k).getD j 0 = (wordsOf s k).getD j 0 := by
    have hl := wordsOf_length s k
    rw [wcur, List.getD, List.getD, List.getElem?_append_left (by omega)]
  rw [this]
theorem shr3 (x : UInt32) : (x.toNat : Int) / (8 : Int) = ((x >>> 3).toNat : Int) := u32_shr x 3 (by decide)
theorem shr10 (x : UInt32) : (x.toNat : Int) / (1024 : Int) = ((x >>> 10).toNat : Int) := u32_shr x 10 (by decide)
theorem sg0_val (x : UInt32) : bits .xor .u32 (bits .xor .u32 ((rotU x 7).toNat : Int) ((rotU x 18).toNat : Int)) ((x.toNat : Int) / 8) = ((sg0 x).toNat : Int) := by rw [shr3, u32_xor, u32_xor]; rfl
theorem sg1_val (x : UInt32) : bits .xor .u32 (bits .xor .u32 ((rotU x 17).toNat : Int) ((rotU x 19).toNat : Int)) ((x.toNat : Int) / 1024) = ((sg1 x).toNat : Int) := by rw [shr10, u32_xor, u32_xor]; rfl
theorem add_val (a b : UInt32) : IntKind.u32.wrap ((a.toNat : Int) + (b.toNat : Int)) = ((a + b).toNat : Int) := by rw [IntKind.wrap_u32, u32_add]
theorem bs1_val (x : UInt32) : bits .xor .u32 (bits .xor .u32 ((rotU x 6).toNat : Int) ((rotU x 11).toNat : Int)) ((rotU x 25).toNat : Int) = ((bs1 x).toNat : Int) := by rw [u32_xor, u32_xor]; rfl
theorem bs0_val (x : UInt32) : bits .xor .u32 (bits .xor .u32 ((rotU x 2).toNat : Int) ((rotU x 13).toNat : Int)) ((rotU x 22).toNat : Int) = ((bs0 x).toNat : Int) := by rw [u32_xor, u32_xor]; rfl
theorem not_val (x : UInt32) : bits .xor .u32 (if IntKind.u32.signed = true then -1 else IntKind.u32.max) (x.toNat : Int) = ((~~~x).toNat : Int) := by
  have e : (if IntKind.u32.signed = true then -1 else IntKind.u32.max : Int) = (((-1 : UInt32).toNat : Nat) : Int) := by decide
  rw [e, u32_xor, UInt32.neg_one_xor]
theorem ch_val (e f g : UInt32) : bits .xor .u32 (bits .and .u32 (e.toNat : Int) (f.toNat : Int)) (bits .and .u32 (bits .xor .u32 (if IntKind.u32.signed = true then -1 else IntKind.u32.max) (e.toNat : Int)) (g.toNat : Int)) = ((chU e f g).toNat : Int) := by
  rw [not_val, u32_and, u32_and, u32_xor]
  rfl
theorem ma_val (a b c : UInt32) : bits .xor .u32 (bits .xor .u32 (bits .and .u32 (a.toNat : Int) (b.toNat : Int)) (bits .and .u32 (a.toNat : Int) (c.toNat : Int))) (bits .and .u32 (b.toNat : Int) (c.toNat : Int)) = ((maU a b c).toNat : Int) := by
  rw [u32_and, u32_and, u32_and, u32_xor, u32_xor]
  rfl
theorem t_val (h b c k w : UInt32) : (((h.toNat : Int) + (b.toNat : Int) + (c.toNat : Int) + (k.toNat : Int)) % 4294967296 + (w.toNat : Int)) % 4294967296 = ((h + b + c + k + w).toNat : Int) := by
  simp only [UInt32.toNat_add]
  omega
theorem tu_val (t b m : UInt32) : ((t.toNat : Int) + ((b.toNat : Int) + (m.toNat : Int))) % 4294967296 = ((t + (b + m)).toNat : Int) := by
  simp only [UInt32.toNat_add]
  omega
/-- The sums that are written after k rounds. -/
def addCur (h v : V8) (k : Nat) : List UInt32 := (h.add v).list.take k ++ h.list.drop k
theorem addCur_length (h v : V8) (k : Nat) (hk : k ≤ 8) : (addCur h v k).length = 8 := by
  have e1 : (h.add v).list.length = 8 := rfl
  have e2 : h.list.length = 8 := rfl
  simp [addCur, e1, e2]
  omega
theorem addCur_get (h v : V8) (k : Nat) (hk : k < 8) : (addCur h v k).getD k 0 = h.list.getD k 0 := by
  obtain rfl | rfl | rfl | rfl | rfl | rfl | rfl | rfl : k = 0 ∨ k = 1 ∨ k = 2 ∨ k = 3 ∨ k = 4 ∨ k = 5 ∨ k = 6 ∨ k = 7 := by omega
  all_goals rfl
theorem addCur_set (h v : V8) (k : Nat) (hk : k < 8) : (uws (addCur h v k)).toArray.setIfInBounds k (uw (h.list.getD k 0 + v.list.getD k 0)) = (uws (addCur h v (k + 1))).toArray := by
  obtain rfl | rfl | rfl | rfl | rfl | rfl | rfl | rfl : k = 0 ∨ k = 1 ∨ k = 2 ∨ k = 3 ∨ k = 4 ∨ k = 5 ∨ k = 6 ∨ k = 7 := by omega
  all_goals rfl
theorem rot_lit (w : World) (x : UInt32) (i : Int) (n : Nat) (hi : i = (n : Int)) (h1 : 1 ≤ n) (h2 : n ≤ 31) :
    Calls Try.prog 158 #[.int .u32 (x.toNat : Int), .int .i64 i] w fun e w' => e = .returned (.int .u32 ((rotU x n).toNat : Int)) ∧ ∃ m, w' = w.drewN m := by
  subst hi
  exact rot_any w x n h1 h2
theorem index_bstr (w : World) (s : List UInt8) (i : Int) (j : Nat) (hj : i = (j : Int)) (hlt : j < s.length) :
    (Instr.index 9 (.string (bstr s)) (.int .i64 i)).run Try.prog w = .ok (.int .u8 ((s.getD j 0).toNat : Int)) w := by
  subst hj
  have hz := bstr_size s
  rw [run_index_string (P := Try.prog) (w := w) 9 _ _ _ Try.underlying9]
  have e : ((j : Int)).toNat = j := by omega
  have h2 : j < (bstr s).size := by omega
  simp [e, h2, bstr_get]

theorem u8_u32 (x : UInt8) : IntKind.u32.wrap (x.toNat : Int) = (x.toUInt32.toNat : Int) := by
  have := x.toNat_lt
  rw [wrapu32 _ (by omega) (by omega), UInt8.toNat_toUInt32]
theorem be4_val (a b c d : UInt8) : bits .or .u32 (bits .or .u32 (bits .or .u32 (IntKind.u32.wrap (IntKind.u32.wrap (a.toNat : Int) * 16777216)) (IntKind.u32.wrap (IntKind.u32.wrap (b.toNat : Int) * 65536))) (IntKind.u32.wrap (IntKind.u32.wrap (c.toNat : Int) * 256))) (IntKind.u32.wrap (d.toNat : Int)) = ((be4 a b c d).toNat : Int) := by
  have h24 := u32_shl a.toUInt32 24 (by decide)
  have h16 := u32_shl b.toUInt32 16 (by decide)
  have h8 := u32_shl c.toUInt32 8 (by decide)
  rw [u8_u32 a, u8_u32 b, u8_u32 c, u8_u32 d]
  simp only [IntKind.wrap_u32]
  rw [show (16777216 : Int) = 2 ^ 24 from rfl, show (65536 : Int) = 2 ^ 16 from rfl, show (256 : Int) = 2 ^ 8 from rfl, h24, h16, h8, u32_or, u32_or, u32_or]
  rfl

set_option maxRecDepth 100000 in
set_option maxHeartbeats 1000000 in
theorem block_any (w : World) (h8 : V8) (s : List UInt8) (hs : s.length = 64) :
    Calls Try.prog 151 #[.agg (uws h8.list).toArray, .string (bstr s)] w fun e w' => e = .returned (.agg (uws (blockV h8 s).list).toArray) ∧ Pure w w' := by
  have hz := bstr_size s
  have hl : (uws h8.list).length = 8 := rfl
  generalize hH : uws h8.list = H at hl
  have HH := Lib.hid hH; clear hH
  have HK := Lib.hid shaKI_val
  have hkl : (uws shaK).length = 64 := rfl
  generalize uws shaK = K at HK hkl
  go_enter Try.func151, Try.ntmps151
  have hz64 : ∀ l : List Value, l = uws (List.replicate 64 0) → (Try.prog.info? 230).bind (·.zero) = some (.agg l.toArray) := fun l e => by rw [e]; exact zero64
  obtain ⟨Z, hZ⟩ : ∃ Z, Z = uws (List.replicate 64 0) := ⟨_, rfl⟩
  have hZl : Z.length = 64 := by rw [hZ]; rfl
  have HZ64 := Lib.hid (hz64 Z hZ); clear hz64
  have HZE := Lib.hid hZ; clear hZ
  have hz8 : ∀ l : List Value, l = uws (List.replicate 8 0) → (Try.prog.info? 220).bind (·.zero) = some (.agg l.toArray) := fun l e => by rw [e]; exact zero8
  obtain ⟨Y, hY⟩ : ∃ Y, Y = uws (List.replicate 8 0) := ⟨_, rfl⟩
  have hYl : Y.length = 8 := by rw [hY]; rfl
  have HZ8 := Lib.hid (hz8 Y hY); clear hz8 hY
  have HK1 : ∀ v ∈ K, v.oneCell' = true := by rw [← HK.out]; intro v hv; obtain ⟨_, _, rfl⟩ := List.mem_map.1 hv; rfl
  have HK1 := Lib.hid HK1
  have hsz64 : (Try.prog.info? 230).map (·.size) = some 64 := by kernel_rfl
  have HS64 := Lib.hid hsz64; clear hsz64
  go_wp2_with (refine wpList_boxV rfl 220 _ rfl H rfl ?_)
  intro g0 w1 e0 c0 t0 s0
  have l0 : w.heap.size ≤ g0 := by omega
  have p1 := t0
  clear e0 t0
  go_wp2_with (refine wpList_allocZ rfl 220 rfl Y HZ8.out ?_)
  intro g1 w2 e1 c1 t1 s1
  have c0 := t1.obj c0 (fun e => e)
  have l1 : g0 < g1 := by omega
  have p2 := p1.pure t1
  clear e1 t1 p1 s0
  go_wp2_with (first | (refine wpList_buildFlatArr rfl 230 219 64 _ rfl .u32 shaKI Try.underlying230 (by kernel_rfl) (by kernel_rfl) (by kernel_rfl) ?_; rw [HK.out]) | (refine wpList_allocZ rfl 230 rfl Z HZ64.out ?_))
  intro g2 w3 e2 c2 t2 s2
  have c0 := t2.obj c0 (fun e => e)
  have c1 := t2.obj c1 (fun e => e)
  have l2 : g1 < g2 := by omega
  have p3 := p2.pure t2
  clear e2 t2 p2 s1
  go_wp2_with (refine wpList_store_blk rfl 230 _ _ rfl g2 _ K _ rfl rfl c2 (by rw [List.size_toArray]; omega) (by rw [hkl]; exact HS64.out) HK1.out ?_)
  intro w4 c2 t3 s3
  have c0 := t3.obj c0 (by omega)
  have c1 := t3.obj c1 (by omega)
  have p4 : Pure w w4 := p3.trans t3 fun i hi e => by omega
  clear t3 p3
  go_wp2_with (refine wpList_allocZ rfl 230 rfl Z HZ64.out ?_)
  intro g3 w5 e3 c3 t4 s4
  have c0 := t4.obj c0 (fun e => e)
  have c1 := t4.obj c1 (fun e => e)
  have c2 := t4.obj c2 (fun e => e)
  have l3 : g2 < g3 := by omega
  have p5 := p4.pure t4
  clear e3 t4 p4 s2 s3
  have C0 := Lib.hid c0; have C1 := Lib.hid c1; have C2 := Lib.hid c2; have C3 := Lib.hid c3; have P5 := Lib.hid p5
  clear c0 c1 c2 c3 p5
  go_wp2
  go_loopw [7] (fun i wr => ∃ k : Nat, k ≤ 16 ∧ i = .int .i64 (k : Nat) ∧ Hid (wr.heap[g3]? = some (.cells (uws (wcur s k)).toArray 230 (0, 0))) ∧ Turn (fun b => b = g3) w5 wr) (fun i _ => 16 - (intOf i).toNat)
  case atStart => exact ⟨0, by omega, rfl, Lib.hid (by rw [C3.out, HZE.out]; rfl), Turn.refl _ _⟩
  case round =>
    obtain ⟨k, hk, rfl, HC, ht⟩ := hrel
    by_cases hlk : k < 16
    · have b0 : IntKind.i64.wrap ((4 : Int) * k) = 4 * k := IntWalk.i64_in _ (by omega)
      have b1 : IntKind.i64.wrap ((4 : Int) * k + 1) = 4 * k + 1 := IntWalk.i64_in _ (by omega)
      have b2 : IntKind.i64.wrap ((4 : Int) * k + 2) = 4 * k + 2 := IntWalk.i64_in _ (by omega)
      have b3 : IntKind.i64.wrap ((4 : Int) * k + 3) = 4 * k + 3 := IntWalk.i64_in _ (by omega)
      have i0 := fun w' => index_bstr w' s ((4 : Int) * k) (4 * k) (by omega) (by omega)
      have i1 := fun w' => index_bstr w' s ((4 : Int) * k + 1) (4 * k + 1) (by omega) (by omega)
      have i2 := fun w' => index_bstr w' s ((4 : Int) * k + 2) (4 * k + 2) (by omega) (by omega)
      have i3 := fun w' => index_bstr w' s ((4 : Int) * k + 3) (4 * k + 3) (by omega) (by omega)
      have q0 : s.getD (4 * k) 0 = s.getD (4 * k) 0 := rfl
      generalize hX0 : s.getD (4 * k) 0 = X0 at i0
      generalize hX1 : s.getD (4 * k + 1) 0 = X1 at i1
      generalize hX2 : s.getD (4 * k + 2) 0 = X2 at i2
      generalize hX3 : s.getD (4 * k + 3) 0 = X3 at i3
      have HX := Lib.hid (And.intro hX0 (And.intro hX1 (And.intro hX2 hX3)))
      clear hX0 hX1 hX2 hX3 q0
      have hcell := uws_cell HC.out k (by rw [wcur_length s k (by omega)]; omega)
      have q64 : (k : Int) < 64 := by omega
      have q0 : 0 ≤ (k : Int) := by omega
      have hfr := frozen_of_row wr g3 k _ _ HC.out
      have hw : wordAt s (wordsOf s k) k = be4 X0 X1 X2 X3 := by rw [wordAt, if_pos hlk, HX.out.1, HX.out.2.1, HX.out.2.2.1, HX.out.2.2.2]
      have hset : (wr.setCell ⟨g3, k, none⟩ (uw (be4 X0 X1 X2 X3))).heap[g3]? = some (.cells (uws (wcur s (k + 1))).toArray 230 (0, 0)) := by
        rw [heap_set_cell HC.out, ← hw, wcur_set s k (by omega)]
      have HSET := Lib.hid hset; clear hset hw HX
      go_wp2_with fail
      go_still_tail 31, (by kernel_rfl)
      rw [be4_val]
      go_wp2
      exact ⟨⟨k + 1, by omega, by go_num, Lib.hid HSET.out, (ht.setCell (fun _ => rfl) _).drew⟩, by simp [intOf]; omega⟩
    · obtain rfl : k = 16 := by omega
      go_wp2
      go_loopw [8, 9, 10] (fun i _ _ wr2 => ∃ k : Nat, 16 ≤ k ∧ k ≤ 64 ∧ i = .int .i64 (k : Nat) ∧ Hid (wr2.heap[g3]? = some (.cells (uws (wcur s k)).toArray 230 (0, 0))) ∧ Turn (fun b => b = g3) w5 wr2) (fun i _ _ _ => 64 - (intOf i).toNat)
      case atStart => exact ⟨16, by omega, by omega, rfl, HC, ht⟩
      case round =>
        clear HC ht
        obtain ⟨k, hk16, hk, rfl, HC, ht⟩ := hrel
        by_cases hlk : k < 64
        · have v15 : IntKind.i64.wrap ((k : Int) - 15) = k - 15 := IntWalk.i64_in _ (by omega)
          have v2 : IntKind.i64.wrap ((k : Int) - 2) = k - 2 := IntWalk.i64_in _ (by omega)
          have v16 : IntKind.i64.wrap ((k : Int) - 16) = k - 16 := IntWalk.i64_in _ (by omega)
          have v7 : IntKind.i64.wrap ((k : Int) - 7) = k - 7 := IntWalk.i64_in _ (by omega)
          have d15 : ((k : Int) - 15).toNat = k - 15 := by omega
          have d2 : ((k : Int) - 2).toNat = k - 2 := by omega
          have d16 : ((k : Int) - 16).toNat = k - 16 := by omega
          have d7 : ((k : Int) - 7).toNat = k - 7 := by omega
          have p15 : 0 ≤ (k : Int) - 15 := by omega
          have p2 : 0 ≤ (k : Int) - 2 := by omega
          have p16 : 0 ≤ (k : Int) - 16 := by omega
          have p7 : 0 ≤ (k : Int) - 7 := by omega
          have q15 : (k : Int) - 15 < 64 := by omega
          have q2 : (k : Int) - 2 < 64 := by omega
          have q16 : (k : Int) - 16 < 64 := by omega
          have q7 : (k : Int) - 7 < 64 := by omega
          have q64 : (k : Int) < 64 := by omega
          have q0 : 0 ≤ (k : Int) := by omega
          have x15 := wcell HC.out (k - 15) (by omega) (by omega)
          have x2 := wcell HC.out (k - 2) (by omega) (by omega)
          have x16 := wcell HC.out (k - 16) (by omega) (by omega)
          have x7 := wcell HC.out (k - 7) (by omega) (by omega)
          have hcell := uws_cell HC.out k (by rw [wcur_length s k (by omega)]; omega)
          have hw : wordAt s (wordsOf s k) k = (wordsOf s k).getD (k - 16) 0 + sg0 ((wordsOf s k).getD (k - 15) 0) + (wordsOf s k).getD (k - 7) 0 + sg1 ((wordsOf s k).getD (k - 2) 0) := by rw [wordAt, if_neg (by omega)]
          have hset := fun W (hW : W.heap[g3]? = some (.cells (uws (wcur s k)).toArray 230 (0, 0))) => (heap_set_cell (w := W) (k := k) (v := uw (wordAt s (wordsOf s k) k)) hW).trans (by rw [wcur_set s k hlk])
          rw [hw] at hset
          have HSET := Lib.hid hset; clear hset hw
          generalize (wordsOf s k).getD (k - 15) 0 = Y15 at x15 HSET
          generalize (wordsOf s k).getD (k - 16) 0 = Y16 at x16 HSET
          generalize (wordsOf s k).getD (k - 7) 0 = Y7 at x7 HSET
          generalize (wordsOf s k).getD (k - 2) 0 = Y2 at x2 HSET
          generalize (wcur s k).getD k 0 = Yk at hcell
          go_wp2_with fail
          go_quiet (first | (go_at_call 158; exact Calls.quiet_of (rot_lit _ _ _ 7 rfl (by decide) (by decide))) | (go_at_call 158; exact Calls.quiet_of (rot_lit _ _ _ 18 rfl (by decide) (by decide))))
          rw [sg0_val]
          have HC1 : Hid ((wr.drewN nq).heap[g3]? = some (.cells (uws (wcur s k)).toArray 230 (0, 0))) := Lib.hid HC.out
          have ht1 := ht.drewN nq
          have x2 : (wr.drewN nq).cell? ⟨g3, k - 2, none⟩ = _ := x2
          have x7 : (wr.drewN nq).cell? ⟨g3, k - 7, none⟩ = _ := x7
          have x16 : (wr.drewN nq).cell? ⟨g3, k - 16, none⟩ = _ := x16
          have hcell : (wr.drewN nq).cell? ⟨g3, k, none⟩ = _ := hcell
          clear HC ht x15
          have hfr := frozen_of_row (wr.drewN nq) g3 k _ _ HC1.out
          generalize wr.drewN nq = wq at *
          go_wp2_with fail
          go_quiet (first | (go_at_call 158; exact Calls.quiet_of (rot_lit _ _ _ 17 rfl (by decide) (by decide))) | (go_at_call 158; exact Calls.quiet_of (rot_lit _ _ _ 19 rfl (by decide) (by decide))))
          rw [sg1_val]
          have HC2 : Hid ((wq.drewN nq).heap[g3]? = some (.cells (uws (wcur s k)).toArray 230 (0, 0))) := Lib.hid HC1.out
          have ht2 := ht1.drewN nq
          have x7 : (wq.drewN nq).cell? ⟨g3, k - 7, none⟩ = _ := x7
          have x16 : (wq.drewN nq).cell? ⟨g3, k - 16, none⟩ = _ := x16
          have hcell : (wq.drewN nq).cell? ⟨g3, k, none⟩ = _ := hcell
          clear HC1 ht1 x2 hfr
          have hfr := frozen_of_row (wq.drewN nq) g3 k _ _ HC2.out
          generalize wq.drewN nq = wp at *
          generalize sg0 Y15 = A at *
          generalize sg1 Y2 = B at *
          go_wp2_with fail
          have r16 : (16 : Int) ≤ k := by omega
          have r7 : (7 : Int) ≤ k := by omega
          have u16 : (k : Int) < 64 + 16 := by omega
          have u7 : (k : Int) < 64 + 7 := by omega
          have u16' : (k : Int) < 80 := by omega
          have u7' : (k : Int) < 71 := by omega
          clear v15 v2 d15 d2 p15 p2 q15 q2
          have HD := Lib.hid (And.intro hlk hk)
          clear hlk hk
          go_still_tail 15, (by kernel_rfl)
          rw [add_val, add_val, add_val]
          generalize Y16 + A + Y7 + B = V at HSET ⊢
          go_wp2
          have hlk := HD.out.1
          refine ⟨?_, ?measure⟩
          iterate 56 (apply Exists.intro)
          refine ⟨?rel, rfl⟩
          case rel => exact ⟨k + 1, by omega, by omega, by go_num, Lib.hid (HSET.out _ HC2.out), (ht2.setCell (fun _ => rfl) _).drew⟩
          case measure => simp [intOf]; omega
        · obtain rfl : k = 64 := by omega
          have c0 := ht.obj C0.out (by omega)
          have c1 := ht.obj C1.out (by omega)
          have c2 := ht.obj C2.out (by omega)
          have c3 := HC.out
          rw [wcur_full] at c3
          have p6 : Pure w _ := P5.out.trans ht fun i hi e => by omega
          have s5 := ht.size
          rw [s4] at s5
          have hs8 : (Try.prog.info? 220).map (·.size) = some 8 := by kernel_rfl
          have HS8 := Lib.hid hs8; clear hs8
          have HH1 : ∀ v ∈ H, v.oneCell' = true := by rw [← HH.out]; exact uws_one _
          have HH1 := Lib.hid HH1
          have HKE : K = uws shaK := by rw [← HK.out]; exact shaKI_val
          have HKE := Lib.hid HKE
          have HHE := Lib.hid HH.out.symm
          clear C0 C1 C2 HC P5 ht C3 HK HH HK1 HS64 HZ64 HZE s4 hz
          have c3 := Lib.hid c3
          go_wp2_with (first | (refine wpList_load_row rfl 220 _ rfl g0 rfl _ H.toArray _ _ c0 Try.underlying220 rfl (by rw [List.size_toArray, hl]; exact HS8.out) ?_) | (refine wpList_allocZ rfl 220 rfl Y HZ8.out ?_))
          intro g4 w6 e4 c4 t5 s6
          have c0 := t5.obj c0 (fun e => e)
          have c1 := t5.obj c1 (fun e => e)
          have c2 := t5.obj c2 (fun e => e)
          have c3 := Lib.hid (t5.obj c3.out (fun e => e))
          have l4 : g3 < g4 := by omega
          have p7 := p6.pure t5
          clear e4 t5 p6 s5
          go_wp2_with (refine wpList_store_blk rfl 220 _ _ rfl g4 _ H _ rfl rfl c4 (by rw [List.size_toArray, hl, hYl]) (by rw [hl]; exact HS8.out) HH1.out ?_)
          intro w7 c4 t6 s7
          have C0 := Lib.hid (t6.obj c0 (by omega))
          have C1 := Lib.hid (t6.obj c1 (by omega))
          have C2 := Lib.hid (t6.obj c2 (by omega))
          have C3 := Lib.hid (t6.obj c3.out (by omega))
          have C4 := Lib.hid c4
          have P7 : Hid (Pure w w7) := Lib.hid (p7.trans t6 fun i hi e => by omega)
          clear c0 c1 c2 c3 c4 p7 t6 s6 s7
          go_wp2
          go_loopw [12, 13, 14, 15, 16] (fun i _ _ _ _ wr3 => ∃ k : Nat, k ≤ 64 ∧ i = .int .i64 (k : Nat) ∧ Hid (wr3.heap[g4]? = some (.cells (uws (roundsOf (wordsOf s 64) h8 k).list).toArray 220 (0, 0))) ∧ Turn (fun b => b = g4) w7 wr3) (fun i _ _ _ _ _ => 64 - (intOf i).toNat)
          case atStart => exact ⟨0, by omega, rfl, Lib.hid (by rw [C4.out, HHE.out]; rfl), Turn.refl _ _⟩
          case round =>
            obtain ⟨k, hk, rfl, HC, ht⟩ := hrel
            by_cases hlk : k < 64
            · have e4 := uws_cell HC.out 4 (by show 4 < 8; decide)
              have e5 := uws_cell HC.out 5 (by show 5 < 8; decide)
              have e6 := uws_cell HC.out 6 (by show 6 < 8; decide)
              have e7 := uws_cell HC.out 7 (by show 7 < 8; decide)
              have e0 := uws_cell HC.out 0 (by show 0 < 8; decide)
              have e1 := uws_cell HC.out 1 (by show 1 < 8; decide)
              have e2 := uws_cell HC.out 2 (by show 2 < 8; decide)
              have e3 := uws_cell HC.out 3 (by show 3 < 8; decide)
              have hstep : roundsOf (wordsOf s 64) h8 (k + 1) = round (shaK.getD k 0) ((wordsOf s 64).getD k 0) (roundsOf (wordsOf s 64) h8 k) := rfl
              have hkc : wr.cell? ⟨g2, k, none⟩ = some (.int .u32 ((shaK.getD k 0).toNat : Int)) := by
                have c2 := ht.obj C2.out (by omega)
                rw [HKE.out] at c2
                exact uws_cell c2 k (by have : shaK.length = 64 := rfl; omega)
              have hwc : wr.cell? ⟨g3, k, none⟩ = some (.int .u32 (((wordsOf s 64).getD k 0).toNat : Int)) := uws_cell (ht.obj C3.out (by omega)) k (by rw [wordsOf_length]; omega)
              generalize shaK.getD k 0 = KK at hkc hstep
              generalize (wordsOf s 64).getD k 0 = WW at hwc hstep
              generalize roundsOf (wordsOf s 64) h8 k = v at *
              obtain ⟨va, vb, vc, vd, ve, vf, vg, vh⟩ := v
              simp only [V8.list, List.getD_cons_zero, List.getD_cons_succ] at e0 e1 e2 e3 e4 e5 e6 e7
              have HSTEP := Lib.hid hstep; clear hstep
              have q64 : (k : Int) < 64 := by omega
              have q0 : 0 ≤ (k : Int) := by omega
              go_wp2_with fail
              go_quiet (first | (go_at_call 158; exact Calls.quiet_of (rot_lit _ _ _ 6 rfl (by decide) (by decide))) | (go_at_call 158; exact Calls.quiet_of (rot_lit _ _ _ 11 rfl (by decide) (by decide))) | (go_at_call 158; exact Calls.quiet_of (rot_lit _ _ _ 25 rfl (by decide) (by decide))))
              rw [bs1_val]
              have HC := Lib.hid (show (wr.drewN nq).heap[g4]? = _ from HC.out)
              have ht := ht.drewN nq
              have e0 : (wr.drewN nq).cell? ⟨g4, 0, none⟩ = _ := e0
              have e1 : (wr.drewN nq).cell? ⟨g4, 1, none⟩ = _ := e1
              have e2 : (wr.drewN nq).cell? ⟨g4, 2, none⟩ = _ := e2
              have e3 : (wr.drewN nq).cell? ⟨g4, 3, none⟩ = _ := e3
              have e4 : (wr.drewN nq).cell? ⟨g4, 4, none⟩ = _ := e4
              have e5 : (wr.drewN nq).cell? ⟨g4, 5, none⟩ = _ := e5
              have e6 : (wr.drewN nq).cell? ⟨g4, 6, none⟩ = _ := e6
              have e7 : (wr.drewN nq).cell? ⟨g4, 7, none⟩ = _ := e7
              have hkc : (wr.drewN nq).cell? ⟨g2, k, none⟩ = _ := hkc
              have hwc : (wr.drewN nq).cell? ⟨g3, k, none⟩ = _ := hwc
              generalize wr.drewN nq = wa at *
              generalize hb1 : bs1 ve = B1
              have HB1 := Lib.hid hb1; clear hb1
              go_wp2_with fail
              go_quiet (fail)
              rw [ch_val, t_val]
              clear hkc hwc
              have HC := Lib.hid (show (wa.drewN nq).heap[g4]? = _ from HC.out)
              have ht := ht.drewN nq
              have e0 : (wa.drewN nq).cell? ⟨g4, 0, none⟩ = _ := e0
              have e1 : (wa.drewN nq).cell? ⟨g4, 1, none⟩ = _ := e1
              have e2 : (wa.drewN nq).cell? ⟨g4, 2, none⟩ = _ := e2
              have e3 : (wa.drewN nq).cell? ⟨g4, 3, none⟩ = _ := e3
              have e4 : (wa.drewN nq).cell? ⟨g4, 4, none⟩ = _ := e4
              have e5 : (wa.drewN nq).cell? ⟨g4, 5, none⟩ = _ := e5
              have e6 : (wa.drewN nq).cell? ⟨g4, 6, none⟩ = _ := e6
              have e7 : (wa.drewN nq).cell? ⟨g4, 7, none⟩ = _ := e7
              generalize wa.drewN nq = wb at *
              generalize hT : vh + B1 + chU ve vf vg + KK + WW = T
              have HT := Lib.hid hT; clear hT
              go_wp2_with fail
              go_quiet (first | (go_at_call 158; exact Calls.quiet_of (rot_lit _ _ _ 2 rfl (by decide) (by decide))) | (go_at_call 158; exact Calls.quiet_of (rot_lit _ _ _ 13 rfl (by decide) (by decide))) | (go_at_call 158; exact Calls.quiet_of (rot_lit _ _ _ 22 rfl (by decide) (by decide))))
              rw [bs0_val]
              have HC := Lib.hid (show (wb.drewN nq).heap[g4]? = _ from HC.out)
              have ht := ht.drewN nq
              have e0 : (wb.drewN nq).cell? ⟨g4, 0, none⟩ = _ := e0
              have e1 : (wb.drewN nq).cell? ⟨g4, 1, none⟩ = _ := e1
              have e2 : (wb.drewN nq).cell? ⟨g4, 2, none⟩ = _ := e2
              have e3 : (wb.drewN nq).cell? ⟨g4, 3, none⟩ = _ := e3
              have e4 : (wb.drewN nq).cell? ⟨g4, 4, none⟩ = _ := e4
              have e5 : (wb.drewN nq).cell? ⟨g4, 5, none⟩ = _ := e5
              have e6 : (wb.drewN nq).cell? ⟨g4, 6, none⟩ = _ := e6
              have e7 : (wb.drewN nq).cell? ⟨g4, 7, none⟩ = _ := e7
              generalize wb.drewN nq = wc at *
              generalize hb0 : bs0 va = B0
              have HB0 := Lib.hid hb0; clear hb0
              have hm := ma_val va vb vc
              generalize hma : maU va vb vc = MA at hm
              have HMA := Lib.hid hma; clear hma
              go_wp2_with (refine wpList_store_blk rfl 220 _ _ rfl g4 _ _ _ rfl rfl HC.out (by rfl) (by exact HS8.out) (by simp [Value.oneCell']) ?_)
              intro w8 c4 t7 s7
              have hc4 : w8.heap[g4]? = some (.cells (uws (roundsOf (wordsOf s 64) h8 (k + 1)).list).toArray 220 (0, 0)) := by
                rw [c4, HSTEP.out, tu_val, u32_add]
                simp only [round, roundT, roundU, V8.list, HB1.out, HT.out, HB0.out, HMA.out]
                rfl
              have HC4 := Lib.hid hc4; clear hc4 c4
              have ht8 := ht.trans t7 fun _ _ e => e
              clear t7 s7
              go_wp2
              exact ⟨⟨k + 1, by omega, by go_num, HC4, ht8⟩, by simp [intOf]; omega⟩
            · obtain rfl : k = 64 := by omega
              have c0 := Lib.hid (ht.obj C0.out (by omega))
              have c1 := Lib.hid (ht.obj C1.out (by omega))
              have P8 : Hid (Pure w wr) := Lib.hid (P7.out.trans ht fun i hi e => by omega)
              clear C0 C1 C2 C3 C4 P7 ht
              generalize hv : roundsOf (wordsOf s 64) h8 64 = v at HC
              have HV := Lib.hid hv; clear hv
              go_wp2
              go_loopw [17] (fun i wr4 => ∃ k : Nat, k ≤ 8 ∧ i = .int .i64 (k : Nat) ∧ Hid (wr4.heap[g0]? = some (.cells (uws (addCur h8 v k)).toArray 220 (0, 0))) ∧ Turn (fun b => b = g0) wr wr4) (fun i _ => 8 - (intOf i).toNat)
              case atStart => exact ⟨0, by omega, rfl, Lib.hid (by rw [c0.out, HHE.out]; rfl), Turn.refl _ _⟩
              case round =>
                obtain ⟨k, hk, rfl, HD, ht⟩ := hrel
                by_cases hlk : k < 8
                · have e0 := uws_cell HD.out k (by rw [addCur_length h8 v k hk]; exact hlk)
                  rw [addCur_get h8 v k hlk] at e0
                  have e1 := uws_cell (ht.obj HC.out (by omega)) k (by show _ < 8; exact hlk)
                  have hset := fun W (hW : W.heap[g0]? = some (.cells (uws (addCur h8 v k)).toArray 220 (0, 0))) => (heap_set_cell (w := W) (k := k) (v := uw (h8.list.getD k 0 + v.list.getD k 0)) hW).trans (by rw [addCur_set h8 v k hlk])
                  have HSET := Lib.hid hset; clear hset
                  have hfr := frozen_of_row _ g0 k _ _ HD.out
                  generalize h8.list.getD k 0 = X at e0 HSET
                  generalize v.list.getD k 0 = Y2 at e1 HSET
                  have q8 : (k : Int) < 8 := by omega
                  have q0 : 0 ≤ (k : Int) := by omega
                  go_wp2_with fail
                  go_still_tail 9, (by kernel_rfl)
                  rw [add_val]
                  generalize X + Y2 = V at HSET ⊢
                  go_wp2
                  refine ⟨?_, ?measure⟩
                  iterate 14 (apply Exists.intro)
                  refine ⟨?rel, rfl⟩
                  case rel => exact ⟨k + 1, by omega, by go_num, Lib.hid (HSET.out _ HD.out), (ht.setCell (fun _ => rfl) _).drew⟩
                  case measure => simp [intOf]; omega
                · obtain rfl : k = 8 := by omega
                  have hfin : addCur h8 v 8 = (blockV h8 s).list := by rw [← HV.out]; rfl
                  have d0 := HD.out
                  rw [hfin] at d0
                  have D0 := Lib.hid d0; clear d0 hfin HD
                  have d1 := ht.obj c1.out (by omega)
                  have p9 : Hid (Pure w _) := Lib.hid (P8.out.trans ht fun i hi e => by omega)
                  have hRl : (uws (blockV h8 s).list).length = 8 := rfl
                  generalize hR : uws (blockV h8 s).list = R at D0 hRl
                  have hR1 : ∀ v ∈ R, v.oneCell' = true := by rw [← hR]; exact uws_one _
                  have HR := Lib.hid hR; clear hR
                  have HR1 := Lib.hid hR1; clear hR1 c0 c1 P8 ht
                  have HD1 := Lib.hid d1; clear d1
                  go_wp2_with (first | (refine wpList_load_row rfl 220 _ rfl g0 rfl _ R.toArray _ _ D0.out Try.underlying220 rfl (by rw [List.size_toArray, hRl]; exact HS8.out) ?_) | (refine wpList_store_blk rfl 220 _ _ rfl g1 _ R _ rfl rfl HD1.out (by rw [List.size_toArray, hRl, hYl]) (by rw [hRl]; exact HS8.out) HR1.out ?_))
                  intro w9 c9 t9 _
                  have hc9 := Lib.hid c9; clear c9
                  have hT9 : Pure w w9 := p9.out.trans t9 fun i hi e => by omega
                  have HT9 := Lib.hid hT9; clear hT9 t9
                  go_wp2
                  refine bodyPost_ret (v := .agg R.toArray) (results_cell_row Try.results151 _ _ g1 _ R.toArray _ _ rfl hc9.out Try.underlying220 rfl (by rw [List.size_toArray, hRl]; exact HS8.out)) rfl ⟨by rw [HR.out], HT9.out⟩
end Go.Proofs.Ytcfbmbhkdicpfaa
