/- A region that draws and makes a row of texts, and hands it to a call. A region that draws and makes both a row of texts and a variable: whichever comes first. Guarded operations in regions that do not draw. -/
import Derived.Test.YtigkmdjdnkbdkaaGrow
import Derived.Test.YtigkmdjdnkbdkaaRows
import Derived.Test.YtigkmdjdnkbdkaaBase
import Derived.OrdersHeld
import Derived.Laws.Tables
namespace Go.Proofs.Ytigkmdjdnkbdkaa
open Go.RowKit

/-- Texts in cells. -/
def strsV (l : List (List UInt8)) : List Value := l.map fun s => .string (bstr s)
theorem strsV_length (l : List (List UInt8)) : (strsV l).length = l.length := by simp [strsV]
theorem strsV_set (l : List (List UInt8)) (r : Nat) (x : List UInt8) (h : r < l.length) : (strsV l).take r ++ [Value.string (bstr x)] ++ (strsV l).drop (r + 1) = strsV (l.set r x) := by
  rw [List.set_eq_take_append_cons_drop, if_pos h]
  simp [strsV]
theorem strs_cell {w : World} {g : Nat} {l : List (List UInt8)} {i : Nat} {x : List UInt8} {T : TypeId} (hi : l[i]? = some x) (hg : w.heap[g]? = some (.cells (strsV l).toArray T (0, 0))) : w.cell? ⟨g, i, none⟩ = some (.string (bstr x)) := by
  rw [cell_of_row w g i _ _ _ hg]
  simp [strsV, hi]
/-- A row of n elements that the region makes: where its slot points. -/
def NewSlN (s : Tmp) (B n : Nat) (o : Obj) (_ : Array Bool) (a : Act) (w : World) : Prop := ∀ g, a.tmps.getD s undef = .slice (some ⟨g, 0, none⟩) n n → B ≤ g → w.heap[g]? = some o
theorem getD_put_neN {a : Act} {s d : Tmp} {v : Value} (h : d ≠ s) : (a.put (some d) v).tmps.getD s undef = a.tmps.getD s undef := by
  show (a.tmps.setIfInBounds d v).getD s undef = _
  rw [Array.getD_eq_getD_getElem?, Array.getD_eq_getD_getElem?, Array.getElem?_setIfInBounds_ne h]
theorem NewSlN.ins {s d : Tmp} {i B n : Nat} {o : Obj} {v : Value} (h : d ≠ s) : ∀ l a w, NewSlN s B n o (l.setIfInBounds i true) (a.put (some d) v) w ↔ NewSlN s B n o l a w := fun l a w => by
  unfold NewSlN
  rw [getD_put_neN h]
theorem Grow.heldSlN (w0 : World) (L : List (Nat × Obj)) (s : Tmp) (B n : Nat) (o : Obj) : Grow (fun w => Pure w0 w ∧ Held L w) (NewSlN s B n o) := ⟨fun _ _ h t => ⟨h.1.pure t, h.2.pure t⟩, fun _ _ _ _ h t g e hB => t.obj (h g e hB) (fun e => e)⟩

section
variable {P : Program} {ops : Array Oper} {Q : Exit → Act → World → Prop} {md : Region.Mode} {S : World → Prop}

/-- The row is made. -/
theorem anyG_row {i s B n : Nat} {t e : TypeId} {parts : Array (Nat × Operand)} {cs : List Value} {ie : TypeInfo} {z : Value} {oi : Oper} {fuel : Nat} {listed : Array Bool} {a : Act} (HG : Grow S (NewSlN s B n (.cells cs.toArray e (0, 0)))) (hr : decide (Region.ready md ops listed = [i]) = true) (hi : ops[i]? = some oi)
    (hw : Region.wanted oi (yielded ops a.tmps) = true) (ho : oi.op = .buildSlice t n parts) (hu : P.underlying t = some (.slice e)) (hie : P.info? e = some ie) (hz : ie.zero = some z) (hsmall : ¬ n * ie.size > 2 ^ 24) (hpos : ¬ n * ie.size = 0)
    (hf : Instr.fill (fun i => some (i * ie.size, ie.size)) ((Array.range (n * ie.size)).map (z.cells[· % z.cells.size]!)) (parts.map fun (i, x) => (i, a.eval x)).toList = some cs.toArray) (hd : oi.dst = some s) (hB : ∀ w, S w → B ≤ w.heap.size) (hs : s < a.tmps.size)
    (h : ∀ g, B ≤ g → AnyG P md ops Q S (NewSlN s B n (.cells cs.toArray e (0, 0))) fuel (listed.setIfInBounds i true) (a.put (some s) (.slice (some ⟨g, 0, none⟩) n n))) :
    AnyG P md ops Q S (NewSlN s B n (.cells cs.toArray e (0, 0))) (fuel + 1) listed a := by
  refine anyG_step hr hi fun w hS hT K hK => ?_
  rw [if_pos hw]
  have hp : Pure w (w.alloc (.cells cs.toArray e)) := (Turn.refl _ _).alloc _
  refine wp_buildSlice t e n parts ho cs.toArray ie z hu hie hz hsmall hpos hf ?_
  rw [hd]
  refine hK.out _ _ (HG.world _ _ hS hp) (fun g e _ => ?_) (h w.heap.size (hB w hS))
  have e2 : (a.put (some s) (.slice (some ⟨w.heap.size, 0, none⟩) n n)).tmps.getD s undef = .slice (some ⟨w.heap.size, 0, none⟩) n n := by
    show (a.tmps.setIfInBounds s _).getD s undef = _
    rw [Array.getD_eq_getD_getElem?, Array.getElem?_setIfInBounds_self_of_lt hs]; rfl
  rw [e2] at e
  cases e
  exact heap_alloc_new _ _
/-- A forced call that lays new blocks at most, and reads what the region made. -/
theorem anyG_callT {T : Array Bool → Act → World → Prop} {i : Nat} {oi : Oper} {v : Value} {fuel : Nat} {listed : Array Bool} {a : Act} {f : FuncId} {args : Array Value} (HG : Grow S T) (hr : decide (Region.ready md ops listed = [i]) = true) (hi : ops[i]? = some oi)
    (hw : Region.wanted oi (yielded ops a.tmps) = true) (hx : ∀ w, S w → (execOp a.eval oi).run P w = .ok (.enter f args) w) (hc : ∀ w, S w → T listed a w → Calls P f args w fun e w' => e = .returned v ∧ Pure w w')
    (hins : ∀ l a w, T (l.setIfInBounds i true) (a.put oi.dst v) w ↔ T l a w)
    (h : AnyG P md ops Q S T fuel (listed.setIfInBounds i true) (a.put oi.dst v)) : AnyG P md ops Q S T (fuel + 1) listed a := by
  refine anyG_step hr hi fun w hS hT K hK => ?_
  rw [if_pos hw]
  unfold Oper.wp
  rw [hx w hS]
  refine (hc w hS hT).mono fun e w' he => ?_
  obtain ⟨rfl, hp⟩ := he
  exact hK.out _ _ (HG.world _ _ hS hp) ((hins _ _ _).2 (HG.act _ _ _ _ hT hp)) h
end
theorem infoStrN : (Try.prog.info? 9).map (fun i => (i.zero, i.size)) = some (some (.string ⟨#[]⟩), 1) := by kernel_rfl
theorem strParts : ∃ i, Hid (Try.prog.info? 9 = some i) ∧ i.zero = some (.string ⟨#[]⟩) ∧ i.size = 1 := by
  have h := infoStrN
  cases hi : Try.prog.info? 9 with
  | none => rw [hi] at h; simp at h
  | some i =>
    rw [hi] at h
    simp only [Option.map_some, Option.some.injEq, Prod.mk.injEq] at h
    exact ⟨i, Lib.hid rfl, h.1, h.2⟩
section
variable {ops : Array Oper} {Q : Exit → Act → World → Prop} {md : Region.Mode} {S : World → Prop}
theorem anyG_strs3 {i s B : Nat} {x y z : Operand} {p q r : ByteArray} {oi : Oper} {fuel : Nat} {listed : Array Bool} {a : Act} (HG : Grow S (NewSlN s B 3 (.cells [Value.string p, .string q, .string r].toArray 9 (0, 0)))) (hr : decide (Region.ready md ops listed = [i]) = true) (hi : ops[i]? = some oi)
    (hw : Region.wanted oi (yielded ops a.tmps) = true) (ho : oi.op = .buildSlice 24 3 #[(0, x), (1, y), (2, z)]) (hx : a.eval x = .string p) (hy : a.eval y = .string q) (hz : a.eval z = .string r) (hd : oi.dst = some s) (hB : ∀ w, S w → B ≤ w.heap.size) (hs : s < a.tmps.size)
    (h : ∀ g, B ≤ g → AnyG Try.prog md ops Q S (NewSlN s B 3 (.cells [Value.string p, .string q, .string r].toArray 9 (0, 0))) fuel (listed.setIfInBounds i true) (a.put (some s) (.slice (some ⟨g, 0, none⟩) 3 3))) :
    AnyG Try.prog md ops Q S (NewSlN s B 3 (.cells [Value.string p, .string q, .string r].toArray 9 (0, 0))) (fuel + 1) listed a := by
  obtain ⟨ie, hie, h1, h2⟩ := strParts
  refine anyG_row HG hr hi hw ho Try.underlying24 hie.out h1 (by rw [h2]; omega) (by rw [h2]; omega) ?_ hd hB hs h
  rw [h2]
  simp [Instr.fill, hx, hy, hz, Value.cells, show Array.range 3 = #[0, 1, 2] from rfl]
theorem anyG_strs1 {i s B : Nat} {x : Operand} {p : ByteArray} {oi : Oper} {fuel : Nat} {listed : Array Bool} {a : Act} (HG : Grow S (NewSlN s B 1 (.cells [Value.string p].toArray 9 (0, 0)))) (hr : decide (Region.ready md ops listed = [i]) = true) (hi : ops[i]? = some oi)
    (hw : Region.wanted oi (yielded ops a.tmps) = true) (ho : oi.op = .buildSlice 24 1 #[(0, x)]) (hx : a.eval x = .string p) (hd : oi.dst = some s) (hB : ∀ w, S w → B ≤ w.heap.size) (hs : s < a.tmps.size)
    (h : ∀ g, B ≤ g → AnyG Try.prog md ops Q S (NewSlN s B 1 (.cells [Value.string p].toArray 9 (0, 0))) fuel (listed.setIfInBounds i true) (a.put (some s) (.slice (some ⟨g, 0, none⟩) 1 1))) :
    AnyG Try.prog md ops Q S (NewSlN s B 1 (.cells [Value.string p].toArray 9 (0, 0))) (fuel + 1) listed a := by
  obtain ⟨ie, hie, h1, h2⟩ := strParts
  refine anyG_row HG hr hi hw ho Try.underlying24 hie.out h1 (by rw [h2]; omega) (by rw [h2]; omega) ?_ hd hB hs h
  rw [h2]
  simp [Instr.fill, hx, Value.cells, show Array.range 1 = #[0] from rfl]
end

/-- A variable that the region makes, and writes by operation j. -/
def NewVar (s B j : Nat) (o o' : Obj) (l : Array Bool) (a : Act) (w : World) : Prop := ∀ g, a.tmps.getD s undef = .pointer (some ⟨g, 0, none⟩) → B ≤ g → w.heap[g]? = some (if l.getD j false = true then o' else o)
theorem NewVar.ins {s B j d i : Nat} {o o' : Obj} {v : Value} (h : d ≠ s) (hj : i ≠ j) : ∀ l a w, NewVar s B j o o' (l.setIfInBounds i true) (a.put (some d) v) w ↔ NewVar s B j o o' l a w := fun l a w => by
  unfold NewVar
  rw [getD_put_neN h, getD_set_ne false hj]
def NewBoth (s B n : Nat) (o : Obj) (s2 j : Nat) (o2 o3 : Obj) (l : Array Bool) (a : Act) (w : World) : Prop := NewSlN s B n o l a w ∧ NewVar s2 B j o2 o3 l a w
theorem NewBoth.ins {s B n s2 j d i : Nat} {o o2 o3 : Obj} {v : Value} (h1 : d ≠ s) (h2 : d ≠ s2) (hj : i ≠ j) : ∀ l a w, NewBoth s B n o s2 j o2 o3 (l.setIfInBounds i true) (a.put (some d) v) w ↔ NewBoth s B n o s2 j o2 o3 l a w := fun l a w => and_congr (NewSlN.ins h1 l a w) (NewVar.ins h2 hj l a w)
theorem Grow.both (w0 : World) (L : List (Nat × Obj)) (s B n : Nat) (o : Obj) (s2 j : Nat) (o2 o3 : Obj) : Grow (fun w => Pure w0 w ∧ Held L w) (NewBoth s B n o s2 j o2 o3) := ⟨fun _ _ h t => ⟨h.1.pure t, h.2.pure t⟩, fun _ _ _ _ h t => ⟨fun g e hB => t.obj (h.1 g e hB) (fun e => e), fun g e hB => t.obj (h.2 g e hB) (fun e => e)⟩⟩
section
variable {P : Program} {ops : Array Oper} {Q : Exit → Act → World → Prop} {md : Region.Mode} {S : World → Prop} {T : Array Bool → Act → World → Prop}

/-- One ready operation, done. -/
def StepG (P : Program) (md : Region.Mode) (ops : Array Oper) (Q : Exit → Act → World → Prop) (S : World → Prop) (T : Array Bool → Act → World → Prop) (fuel : Nat) (listed : Array Bool) (a : Act) (i : Nat) : Prop :=
  ∀ w, S w → T listed a w → wpOp P ops Q i (fun a' w' => S w' ∧ T (listed.setIfInBounds i true) a' w' ∧ AnyG P md ops Q S T fuel (listed.setIfInBounds i true) a') a w
theorem anyG_one {i fuel : Nat} {listed : Array Bool} {a : Act} (hr : decide (Region.ready md ops listed = [i]) = true) (hi : StepG P md ops Q S T fuel listed a i) : AnyG P md ops Q S T (fuel + 1) listed a := by
  have hr' : Region.ready md ops listed = [i] := of_decide_eq_true hr
  refine .inr ⟨fun h0 => (by rw [hr'] at h0; cases h0), fun k hk w hS hT => ?_⟩
  rw [hr'] at hk
  obtain rfl : k = i := by simpa using hk
  exact hi w hS hT
theorem anyG_two {i j fuel : Nat} {listed : Array Bool} {a : Act} (hr : decide (Region.ready md ops listed = [i, j]) = true) (hi : StepG P md ops Q S T fuel listed a i) (hj : StepG P md ops Q S T fuel listed a j) : AnyG P md ops Q S T (fuel + 1) listed a := by
  have hr' : Region.ready md ops listed = [i, j] := of_decide_eq_true hr
  refine .inr ⟨fun h0 => (by rw [hr'] at h0; cases h0), fun k hk w hS hT => ?_⟩
  rw [hr'] at hk
  rcases List.mem_cons.1 hk with rfl | hk
  · exact hi w hS hT
  · obtain rfl := List.mem_singleton.1 hk
    exact hj w hS hT
theorem stepG_of {i : Nat} {oi : Oper} {fuel : Nat} {listed : Array Bool} {a : Act} (hi : ops[i]? = some oi) (hw : Region.wanted oi (yielded ops a.tmps) = true)
    (h : ∀ w, S w → T listed a w → ∀ K : Act → World → Prop, (∀ a' w', S w' → T (listed.setIfInBounds i true) a' w' → AnyG P md ops Q S T fuel (listed.setIfInBounds i true) a' → K a' w') → Oper.wp P oi a w K Q) : StepG P md ops Q S T fuel listed a i := fun w hS hT => by
  unfold wpOp
  simp only [hi]
  rw [if_pos hw]
  exact .inl (h w hS hT _ fun a' w' h1 h2 h3 => ⟨h1, h2, h3⟩)
/-- What follows a region is shown once, whatever order was picked. -/
theorem wp_region_G_cut2 {id : Nat} {a : Act} {w : World} (S : World → Prop) (T : Array Bool → Act → World → Prop) (R : Nat → Nat → World → Prop) (hm : P.follows .mixedOrders = true) (hS : S w.drew) (hT : T (Array.replicate ops.size false) a w.drew)
    (h : ∃ F : Nat → Nat → Act, AnyG P .any ops (fun e a w => e = .normal ∧ ∃ x y, a = F x y ∧ R x y w) S T ops.size (Array.replicate ops.size false) a ∧ ∀ x y w, R x y w → Q .normal (F x y) w) : (Code.region id ops true).wp P Q a w := by
  obtain ⟨F, h, hF⟩ := h
  exact Code.wp_mono (fun e a w q => by obtain ⟨rfl, x, y, rfl, hr⟩ := q; exact hF x y w hr) (wp_region_G S T hm hS hT h)
theorem getD_put_same {a : Act} {s : Tmp} {v : Value} (h : s < a.tmps.size) : (a.put (some s) v).tmps.getD s undef = v := by
  show (a.tmps.setIfInBounds s _).getD s undef = _
  rw [Array.getD_eq_getD_getElem?, Array.getElem?_setIfInBounds_self_of_lt h]; rfl
/-- The row. -/
theorem stepG_row {i s B n s2 j : Nat} {o2 o3 : Obj} {t e : TypeId} {parts : Array (Nat × Operand)} {cs : List Value} {ie : TypeInfo} {z : Value} {oi : Oper} {fuel : Nat} {listed : Array Bool} {a : Act} (HG : Grow S (NewBoth s B n (.cells cs.toArray e (0, 0)) s2 j o2 o3)) (hi : ops[i]? = some oi)
    (hw : Region.wanted oi (yielded ops a.tmps) = true) (ho : oi.op = .buildSlice t n parts) (hu : P.underlying t = some (.slice e)) (hie : P.info? e = some ie) (hz : ie.zero = some z) (hsmall : ¬ n * ie.size > 2 ^ 24) (hpos : ¬ n * ie.size = 0)
    (hf : Instr.fill (fun i => some (i * ie.size, ie.size)) ((Array.range (n * ie.size)).map (z.cells[· % z.cells.size]!)) (parts.map fun (i, x) => (i, a.eval x)).toList = some cs.toArray) (hd : oi.dst = some s) (hne : s ≠ s2) (hj : i ≠ j) (hB : ∀ w, S w → B ≤ w.heap.size) (hs : s < a.tmps.size)
    (h : ∀ g, B ≤ g → AnyG P md ops Q S (NewBoth s B n (.cells cs.toArray e (0, 0)) s2 j o2 o3) fuel (listed.setIfInBounds i true) (a.put (some s) (.slice (some ⟨g, 0, none⟩) n n))) :
    StepG P md ops Q S (NewBoth s B n (.cells cs.toArray e (0, 0)) s2 j o2 o3) fuel listed a i := by
  refine stepG_of hi hw fun w hS hT K hK => ?_
  have hp : Pure w (w.alloc (.cells cs.toArray e)) := (Turn.refl _ _).alloc _
  refine wp_buildSlice t e n parts ho cs.toArray ie z hu hie hz hsmall hpos hf ?_
  rw [hd]
  refine hK _ _ (HG.world _ _ hS hp) ⟨fun g e _ => ?_, (NewVar.ins hne hj listed a _).2 fun g e hB => hp.obj (hT.2 g e hB) (fun e => e)⟩ (h w.heap.size (hB w hS))
  rw [getD_put_same hs] at e
  cases e
  exact heap_alloc_new _ _
/-- The variable. -/
theorem stepG_alloc {t : TypeId} {i s B n s2 j : Nat} {o o3 : Obj} {z : Value} {oi : Oper} {fuel : Nat} {listed : Array Bool} {a : Act} (HG : Grow S (NewBoth s B n o s2 j (.cells z.cells t (0, 0)) o3)) (hi : ops[i]? = some oi)
    (hw : Region.wanted oi (yielded ops a.tmps) = true) (ho : oi.op = .alloc t) (hd : oi.dst = some s2) (hne : s2 ≠ s) (hl0 : (listed.setIfInBounds i true).getD j false = false) (hz : (P.info? t).bind (·.zero) = some z) (hB : ∀ w, S w → B ≤ w.heap.size) (hs : s2 < a.tmps.size)
    (h : ∀ g, B ≤ g → AnyG P md ops Q S (NewBoth s B n o s2 j (.cells z.cells t (0, 0)) o3) fuel (listed.setIfInBounds i true) (a.put (some s2) (.pointer (some ⟨g, 0, none⟩)))) :
    StepG P md ops Q S (NewBoth s B n o s2 j (.cells z.cells t (0, 0)) o3) fuel listed a i := by
  refine stepG_of hi hw fun w hS hT K hK => ?_
  obtain ⟨ii, hii, hzi⟩ := Option.bind_eq_some_iff.1 hz
  have hp : Pure w (w.alloc (.cells z.cells t)) := (Turn.refl _ _).alloc _
  have hk := hK (a.put (some s2) (.pointer (some ⟨w.heap.size, 0, none⟩))) (w.alloc (.cells z.cells t)) (HG.world _ _ hS hp) ⟨(NewSlN.ins hne listed a _).2 fun g e hB => hp.obj (hT.1 g e hB) (fun e => e), fun g e _ => by
    rw [getD_put_same hs] at e
    cases e
    rw [hl0, if_neg (by decide)]
    exact heap_alloc_new _ _⟩ (h w.heap.size (hB w hS))
  have hrun : (execOp a.eval oi).run P w = .ok (.value (.pointer (some ⟨w.heap.size, 0, none⟩))) (w.alloc (.cells z.cells t)) := by
    unfold execOp
    simp [ho, Instr.alloc, zeroValue, typeInfo, hii, hzi, newVar, newRow, newObj, Result.andThen]
    rfl
  unfold Oper.wp
  rw [hrun]
  show K (a.put oi.dst _) _
  rw [hd]
  exact hk
/-- A call that lays new blocks at most, and reads what the region made. -/
theorem stepG_call {i : Nat} {oi : Oper} {v : Value} {fuel : Nat} {listed : Array Bool} {a : Act} {f : FuncId} {args : Array Value} (HG : Grow S T) (hi : ops[i]? = some oi)
    (hw : Region.wanted oi (yielded ops a.tmps) = true) (hx : ∀ w, S w → (execOp a.eval oi).run P w = .ok (.enter f args) w) (hc : ∀ w, S w → T listed a w → Calls P f args w fun e w' => e = .returned v ∧ Pure w w')
    (hins : ∀ l a w, T (l.setIfInBounds i true) (a.put oi.dst v) w ↔ T l a w)
    (h : AnyG P md ops Q S T fuel (listed.setIfInBounds i true) (a.put oi.dst v)) : StepG P md ops Q S T fuel listed a i := by
  refine stepG_of hi hw fun w hS hT K hK => ?_
  unfold Oper.wp
  rw [hx w hS]
  refine (hc w hS hT).mono fun e w' he => ?_
  obtain ⟨rfl, hp⟩ := he
  exact hK _ _ (HG.world _ _ hS hp) ((hins _ _ _).2 (HG.act _ _ _ _ hT hp)) h
/-- The variable is written. -/
theorem stepG_store {i s B n s2 g : Nat} {ty T0 : TypeId} {x y : Operand} {o : Obj} {old : Array Value} {cs : List Value} {w0 : World} {L : List (Nat × Obj)} {oi : Oper} {fuel : Nat} {listed : Array Bool} {a : Act} (hi : ops[i]? = some oi)
    (hw : Region.wanted oi (yielded ops a.tmps) = true) (ho : oi.op = .store ty x y) (hx : a.eval x = .pointer (some ⟨g, 0, none⟩)) (hy : a.eval y = .agg cs.toArray) (hs2 : a.tmps.getD s2 undef = .pointer (some ⟨g, 0, none⟩)) (hg : B ≤ g) (hl0 : listed.getD i false = false) (hl1 : (listed.setIfInBounds i true).getD i false = true) (hdst : oi.dst = none)
    (hBw : w0.heap.size ≤ B) (hL : ∀ p ∈ L, p.1 < B) (hne : o ≠ .cells old T0 (0, 0))
    (hs : old.size = cs.length) (hinf : (P.info? ty).map (·.size) = some cs.length) (h1 : ∀ v ∈ cs, v.oneCell' = true)
    (h : AnyG P md ops Q (fun w => Pure w0 w ∧ Held L w) (NewBoth s B n o s2 i (.cells old T0 (0, 0)) (.cells cs.toArray T0 (0, 0))) fuel (listed.setIfInBounds i true) a) :
    StepG P md ops Q (fun w => Pure w0 w ∧ Held L w) (NewBoth s B n o s2 i (.cells old T0 (0, 0)) (.cells cs.toArray T0 (0, 0))) fuel listed a i := by
  refine stepG_of hi hw fun w hS hT K hK => ?_
  have hb := hT.2 g hs2 hg
  rw [hl0, if_neg (by decide)] at hb
  refine wp_store_mid ty x y ho g 0 cs.toArray hx hy ?_ (by simpa using hinf) (all_oneCell_toArray h1) ?_
  · intro j hj
    rw [Nat.zero_add, cell_of_row w g j old T0 (0, 0) hb, frozen_of_row w g j old T0 hb]
    exact ⟨by simp at hj ⊢; omega, rfl⟩
  · have hwr := setCells_heap g cs 0 w old T0 (0, 0) hb (by omega)
    have ht : Turn (fun k => k = g) w (w.setCells g 0 cs) := ⟨World.os_setCells _ _ _ _, setCells_tape _ _ _ _, World.output_setCells _ _ _ _, by rw [setCells_size]; exact Nat.le_refl _, fun k hk hn => World.heap_setCells_other w g _ _ hk hn⟩
    rw [hdst]
    refine hK a (w.setCells g 0 cs) ⟨hS.1.newer ht (by omega), fun p hp => ht.obj (hS.2 p hp) (fun e => by have := hL p hp; omega)⟩ ⟨fun q e hB => ht.obj (hT.1 q e hB) (fun eq => hne (by subst eq; exact Option.some.inj ((hT.1 _ e hB).symm.trans hb))), fun q e _ => ?_⟩ h
    rw [hs2] at e
    cases e
    rw [hl1, if_pos rfl, hwr]
    simp [List.drop_eq_nil_of_le, hs]
end
section
variable {ops : Array Oper} {Q : Exit → Act → World → Prop} {md : Region.Mode} {S : World → Prop}
theorem stepG_strs3 {i s B s2 j : Nat} {o2 o3 : Obj} {x y z : Operand} {p q r : List UInt8} {oi : Oper} {fuel : Nat} {listed : Array Bool} {a : Act} (HG : Grow S (NewBoth s B 3 (.cells (strsV [p, q, r]).toArray 9 (0, 0)) s2 j o2 o3)) (hi : ops[i]? = some oi)
    (hw : Region.wanted oi (yielded ops a.tmps) = true) (ho : oi.op = .buildSlice 24 3 #[(0, x), (1, y), (2, z)]) (hx : a.eval x = .string (bstr p)) (hy : a.eval y = .string (bstr q)) (hz : a.eval z = .string (bstr r)) (hd : oi.dst = some s) (hne : s ≠ s2) (hj : i ≠ j) (hB : ∀ w, S w → B ≤ w.heap.size) (hs : s < a.tmps.size)
    (h : ∀ g, B ≤ g → AnyG Try.prog md ops Q S (NewBoth s B 3 (.cells (strsV [p, q, r]).toArray 9 (0, 0)) s2 j o2 o3) fuel (listed.setIfInBounds i true) (a.put (some s) (.slice (some ⟨g, 0, none⟩) 3 3))) :
    StepG Try.prog md ops Q S (NewBoth s B 3 (.cells (strsV [p, q, r]).toArray 9 (0, 0)) s2 j o2 o3) fuel listed a i := by
  obtain ⟨ie, hie, h1, h2⟩ := strParts
  refine stepG_row HG hi hw ho Try.underlying24 hie.out h1 (by rw [h2]; omega) (by rw [h2]; omega) ?_ hd hne hj hB hs h
  rw [h2]
  simp [Instr.fill, hx, hy, hz, Value.cells, strsV, show Array.range 3 = #[0, 1, 2] from rfl]
end

/-- An operation that is wanted (its guard is met). -/
theorem wpList_wantedX {P : Program} {ops : Array Oper} {rest : List Oper} {o : Oper} {a : Act} {w : World} {Q : Exit → Act → World → Prop} (hw : Region.wanted o (yielded ops a.tmps) = true)
    (h : ∀ K : Act → World → Prop, (∀ a w, wpList P ops Q rest a w → K a w) → o.wp P a w K Q) : wpList P ops Q (o :: rest) a w := wpList_step fun K hK => by rw [if_pos hw]; exact h K hK
theorem wpList_load_midX {P : Program} {ops : Array Oper} {rest : List Oper} {op : Oper} {a : Act} {w : World} {Q : Exit → Act → World → Prop} (hw : Region.wanted op (yielded ops a.tmps) = true) (ty : TypeId) (x : Operand) (ho : op.op = .load ty x)
    (b o : Nat) (hx : a.eval x = .pointer (some ⟨b, o, none⟩)) (cs : List Value) (d : TypeDesc) (hc : w.rangeAt b o cs)
    (hu : P.underlying ty = some d) (hd : d.isRow = true) (hi : (P.info? ty).map (·.size) = some cs.length)
    (h : wpList P ops Q rest (a.put op.dst (.agg cs.toArray)) w) : wpList P ops Q (op :: rest) a w :=
  wpList_wantedX hw fun _ hK => wp_load_mid ty x ho b o hx cs d hc hu hd hi (hK _ _ h)
/-- A struct or an array is put together. -/
theorem yieldsIf_build {P : Program} {ops : Array Oper} {S : World → Prop} {o : Oper} {a : Act} (hw : Region.wanted o (yielded ops a.tmps) = true) (t : TypeId) (parts : Array (Nat × Operand)) (ho : o.op = .build t parts) (cells : Array Value) (L : List (Nat × Value))
    (hf : P.built t L = some cells) (hp : (parts.map fun (i, x) => (i, a.eval x)).toList = L) : YieldsIf P ops S o (.agg cells) a := by
  subst hp
  refine Or.inl ⟨hw, fun w _ => ?_⟩
  unfold execOp
  simp only [ho, Sem.run_bind, run_build w t _ cells hf, Result.andThen_ok]
  rfl
end Go.Proofs.Ytigkmdjdnkbdkaa
