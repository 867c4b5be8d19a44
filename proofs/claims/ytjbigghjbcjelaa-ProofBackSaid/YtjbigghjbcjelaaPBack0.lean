/- The law ProofBack: what is proved is taken; a path longer is not. -/
import Derived.Test.YtjbigghjbcjelaaPSizes
namespace Go.Proofs.Ytjbigghjbcjelaa
open Go.RowKit

theorem back_chk (ls : List (List UInt8)) (i : Nat) (x : List UInt8) (hx : ls[i]? = some x) (h1 : 1 ≤ ls.length) : chkV x i ls.length (pathV ls i) (rootV ls) = 0 := by
  rw [chkV_climb _ _ _ _ _ h1, climb_path ls.length ls i x rfl hx]
  simp
theorem back_long (ls : List (List UInt8)) (i : Nat) (x y r : List UInt8) (hx : ls[i]? = some x) (h1 : 1 ≤ ls.length) : chkV x i ls.length (pathV ls i ++ [y]) r = 1001 := by
  obtain ⟨d, _, _, a3⟩ := climb_up ls.length h1 (leafV x) i
  have h2 := a3 (pathV ls i)
  rw [climb_path ls.length ls i x rfl hx] at h2
  have hd : (pathV ls i).length = d := by simpa using h2.symm
  rw [chkV_climb _ _ _ _ _ h1, a3, if_neg]
  rintro ⟨h, _⟩
  rw [List.length_append] at h
  simp at h
  omega
theorem back_cchk (ls : List (List UInt8)) (m : Nat) (h1 : 1 ≤ m) (h2 : m ≤ ls.length) : cchkV m (rootV (ls.take m)) ls.length (rootV ls) (subV ls m true) = 0 := by
  rw [cchkV, rise_sub ls.length ls m true _ rfl h1 h2 (fun _ => rfl)]
  simp
theorem back_clong (ls : List (List UInt8)) (m : Nat) (y r : List UInt8) (h1 : 1 ≤ m) (h2 : m ≤ ls.length) : cchkV m (rootV (ls.take m)) ls.length r (subV ls m true ++ [y]) = 1001 := by
  obtain ⟨d, _, _, a3⟩ := rise_both ls.length (by omega) m (rootV (ls.take m)) true h1 h2
  have h3 := a3 (subV ls m true)
  rw [rise_sub ls.length ls m true _ rfl h1 h2 (fun _ => rfl)] at h3
  have hd : (subV ls m true).length = d := by simpa using h3.symm
  rw [cchkV, a3, if_neg]
  rintro ⟨h, _⟩
  rw [List.length_append] at h
  simp at h
  omega
/-- A region with six things of its own, and what follows it once. -/
theorem wp_region_cut6 {P : Program} {id : Nat} {ops : Array Oper} {d : Bool} {Q : Exit → Act → World → Prop} {a : Act} {w : World} {R : Nat → Option Addr → Nat → Nat → Option Addr → Nat → World → Prop}
    (h : ∃ F : Nat → Option Addr → Nat → Nat → Option Addr → Nat → Act, (Code.region id ops d).wp P (fun e a' w' => e = .normal ∧ ∃ g ao c g' ao' c', a' = F g ao c g' ao' c' ∧ R g ao c g' ao' c' w') a w ∧ ∀ g ao c g' ao' c' w', R g ao c g' ao' c' w' → Q .normal (F g ao c g' ao' c') w') : (Code.region id ops d).wp P Q a w := by
  obtain ⟨F, h1, h2⟩ := h
  refine Code.wp_mono (fun e a' w' hh => ?_) h1
  obtain ⟨rfl, g, ao, c, g', ao', c', rfl, hr⟩ := hh
  exact h2 g ao c g' ao' c' w' hr
/-- An empty row of hashes, in a region that draws its order. -/
theorem step_emptyHash {ops : Array Oper} {o : Oper} {a : Act} {w : World} {K : Act → World → Prop} {Q : Exit → Act → World → Prop} {E : Prop} (hgd : o.guard = none) (ho : o.op = .buildSlice 41 0 #[])
    (h : K (a.put o.dst (.slice (some ⟨w.heap.size, 0, none⟩) 0 0)) (w.alloc (.cells #[] 28))) :
    if Region.wanted o (yielded ops a.tmps) = true then Oper.wp Try.prog o a w K Q else E := by
  rw [if_pos (by simp [Region.wanted, hgd])]
  obtain ⟨i, z, hi, hz, hs, hb, hzs⟩ := parts28
  have hrun : (Instr.buildSlice 41 0 #[]).run Try.prog w = .ok (.slice (some ⟨w.heap.size, 0, none⟩) 0 0) (w.alloc (.cells #[] 28)) := by
    simp [Instr.buildSlice, run_underlying Try.underlying41, sizeOf, typeInfo, hi.out, Instr.fill, newRow, show Array.range 0 = #[] from rfl]
  unfold Oper.wp execOp
  simp only [ho, Sem.run_bind, List.map_toArray, List.map_nil, hrun, Result.andThen_ok]
  exact h
theorem wp_empty_n {o : Oper} {a : Act} {w : World} {K : Act → World → Prop} {Q : Exit → Act → World → Prop} (ho : o.op = .buildSlice 41 0 #[])
    (h : ∀ g w', g = w.heap.size → w'.heap[g]? = some (.cells #[] 28 (0, 0)) → Pure w w' → w'.heap.size = g + 1 → K (a.put o.dst (.slice (some ⟨g, 0, none⟩) 0 0)) w') : Oper.wp Try.prog o a w K Q := by
  obtain ⟨i, z, hi, hz, hs, hb, hzs⟩ := parts28
  have hrun : (Instr.buildSlice 41 0 #[]).run Try.prog w = .ok (.slice (some ⟨w.heap.size, 0, none⟩) 0 0) (w.alloc (.cells #[] 28)) := by
    simp [Instr.buildSlice, run_underlying Try.underlying41, sizeOf, typeInfo, hi.out, Instr.fill, newRow, show Array.range 0 = #[] from rfl]
  unfold Oper.wp execOp
  simp only [ho, Sem.run_bind, List.map_toArray, List.map_nil, hrun, Result.andThen_ok]
  exact h _ _ rfl (heap_alloc_new _ _) ((Turn.refl _ _).alloc _) (by simp)
theorem wp_hash_n {o : Oper} {a : Act} {w : World} {K : Act → World → Prop} {Q : Exit → Act → World → Prop} (x : Operand) (ho : o.op = .buildSlice 41 1 #[(0, x)])
    (l : List UInt8) (hx : a.eval x = hv l) (hl : l.length = 32) (h : ∀ g w', g = w.heap.size → w'.heap[g]? = some (.cells (u8s l).toArray 28 (0, 0)) → Pure w w' → w'.heap.size = g + 1 → K (a.put o.dst (.slice (some ⟨g, 0, none⟩) 1 1)) w') : Oper.wp Try.prog o a w K Q := by
  obtain ⟨i, z, hi, hz, hs, hb, hzs⟩ := parts28
  refine wp_buildSlice 41 28 1 #[(0, x)] ho (u8s l).toArray i z Try.underlying41 hi.out hz (by rw [hs]; omega) (by rw [hs]; omega) ?_ (h _ _ rfl (heap_alloc_new _ _) ((Turn.refl _ _).alloc _) (by simp))
  rw [hs]
  have := fill_one 32 (u8s l) ((Array.range (1 * 32)).map (z.cells[· % z.cells.size]!)) (by rw [u8s_length, hl]) (by simp)
  simpa [hx] using this
theorem wp_append_n {P : Program} {w : World} {o : Oper} {a : Act} {K : Act → World → Prop} {Q : Exit → Act → World → Prop} (sl x : Operand) (t tx e : TypeId)
    (ho : o.op = .call { callee := .builtin .append, args := #[sl, x], argTypes := #[t, tx] }) (i : TypeInfo) (z : Value) (size bytes : Nat) (ht : P.underlying t = some (.slice e)) (hi : P.info? e = some i) (hz : i.zero = some z)
    (hsize : i.size = size) (hby : i.bytes = bytes) (hzs : z.cells.size = size) (v : Value) (n : Nat) (xs : List Value) (hv : a.eval sl = v) (hown : w.ownsRow 0 e size v n xs) (xv : Value) (hx : a.eval x = xv) (m : Nat) (news : List Value)
    (hs : Src P size tx xv m news w) (h63 : n + m ≤ 9223372036854775807) (hbytes : (n + m) * bytes ≤ 140737488355328)
    (h : ∀ ao c w', w'.ownsRow 0 e size (.slice ao (n + m) c) (n + m) (xs ++ news) → Turn (fun k => v.ownBlock = some k) w w' → Hid ((Value.slice ao (n + m) c).ownBlock = v.ownBlock ∨ (Value.slice ao (n + m) c).ownBlock = some w.heap.size) → K (a.put o.dst (.slice ao (n + m) c)) w') : Oper.wp P o a w K Q := by
  obtain ⟨v', w', hr, h2, h3, h4, _⟩ := append_turn (P := P) w t tx o.type e i z size bytes ht hi hz hsize hby hzs v n xs hown xv m news hs h63 hbytes
  unfold Oper.wp execOp
  simp only [ho, resolve, invoke, builtin, Sem.run_bind, Sem.run_pure, Result.andThen_ok, List.map_toArray, List.map_cons, List.map_nil, hv, hx, hr]
  obtain ⟨ao, c, rfl, _⟩ := ownsRow_shape h2
  exact h ao c w' h2 h3 h4
theorem wp_append_0 {P : Program} {w : World} {o : Oper} {a : Act} {K : Act → World → Prop} {Q : Exit → Act → World → Prop} (sl x : Operand) (t tx e : TypeId)
    (ho : o.op = .call { callee := .builtin .append, args := #[sl, x], argTypes := #[t, tx] }) (i : TypeInfo) (z : Value) (size bytes : Nat) (ht : P.underlying t = some (.slice e)) (hi : P.info? e = some i) (hz : i.zero = some z)
    (hsize : i.size = size) (hby : i.bytes = bytes) (hzs : z.cells.size = size) (v : Value) (hv : a.eval sl = v) (hown : w.ownsRow 0 e size v 0 []) (xv : Value) (hx : a.eval x = xv) (m : Nat) (news : List Value)
    (hs : Src P size tx xv m news w) (h63 : m ≤ 9223372036854775807) (hbytes : m * bytes ≤ 140737488355328)
    (h : ∀ ao c w', w'.ownsRow 0 e size (.slice ao m c) m news → Turn (fun k => v.ownBlock = some k) w w' → Hid ((Value.slice ao m c).ownBlock = v.ownBlock ∨ (Value.slice ao m c).ownBlock = some w.heap.size) → K (a.put o.dst (.slice ao m c)) w') : Oper.wp P o a w K Q := by
  refine wp_append_n sl x t tx e ho i z size bytes ht hi hz hsize hby hzs v 0 [] hv hown xv hx m news hs (by omega) (by rw [Nat.zero_add]; exact hbytes) ?_
  rw [Nat.zero_add]
  exact h
end Go.Proofs.Ytjbigghjbcjelaa
