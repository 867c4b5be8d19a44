/- A region that draws its order: rows that it makes and uses itself, in forced steps. -/
import Derived.Test.YtigkmdjdnkbdkaaGrow
namespace Go.Proofs.Ytigkmdjdnkbdkaa
open Go.RowKit

/-- A row of n elements that the region makes: where its slot points. -/
def NewN (s : Tmp) (n B : Nat) (o : Obj) (_ : Array Bool) (a : Act) (w : World) : Prop := ∀ g, a.tmps.getD s undef = .slice (some ⟨g, 0, none⟩) n n → B ≤ g → w.heap[g]? = some o
theorem getD_putN {a : Act} {s d : Tmp} {v : Value} (h : d ≠ s) : (a.put (some d) v).tmps.getD s undef = a.tmps.getD s undef := by
  show (a.tmps.setIfInBounds d v).getD s undef = _
  rw [Array.getD_eq_getD_getElem?, Array.getD_eq_getD_getElem?, Array.getElem?_setIfInBounds_ne h]
theorem getD_putS {a : Act} {s : Tmp} {v : Value} (h : s < a.tmps.size) : (a.put (some s) v).tmps.getD s undef = v := by
  show (a.tmps.setIfInBounds s v).getD s undef = _
  rw [Array.getD_eq_getD_getElem?, Array.getElem?_setIfInBounds_self_of_lt h]; rfl
theorem NewN.ins {s d : Tmp} {i n B : Nat} {o : Obj} {v : Value} (h : d ≠ s) : ∀ l a w, NewN s n B o (l.setIfInBounds i true) (a.put (some d) v) w ↔ NewN s n B o l a w := fun l a w => by
  unfold NewN
  rw [getD_putN h]
def NewTwo (s1 s2 : Tmp) (n1 n2 B : Nat) (o1 o2 : Obj) (l : Array Bool) (a : Act) (w : World) : Prop := NewN s1 n1 B o1 l a w ∧ NewN s2 n2 B o2 l a w
theorem NewTwo.ins {s1 s2 d : Tmp} {i n1 n2 B : Nat} {o1 o2 : Obj} {v : Value} (h1 : d ≠ s1) (h2 : d ≠ s2) : ∀ l a w, NewTwo s1 s2 n1 n2 B o1 o2 (l.setIfInBounds i true) (a.put (some d) v) w ↔ NewTwo s1 s2 n1 n2 B o1 o2 l a w := fun l a w => by
  unfold NewTwo
  rw [NewN.ins h1 l a w, NewN.ins h2 l a w]
theorem Grow.heldTwo (w0 : World) (L : List (Nat × Obj)) (s1 s2 : Tmp) (n1 n2 B : Nat) (o1 o2 : Obj) : Grow (fun w => Pure w0 w ∧ Held L w) (NewTwo s1 s2 n1 n2 B o1 o2) :=
  ⟨fun _ _ h t => ⟨h.1.pure t, h.2.pure t⟩, fun _ _ _ _ h t => ⟨fun g e hB => t.obj (h.1 g e hB) (fun e => e), fun g e hB => t.obj (h.2 g e hB) (fun e => e)⟩⟩
section
variable {P : Program} {ops : Array Oper} {Q : Exit → Act → World → Prop} {md : Region.Mode} {S : World → Prop} {T : Array Bool → Act → World → Prop}
/-- A row is made. -/
theorem anyG_new {i s B n : Nat} {o : Obj} {oi : Oper} {fuel : Nat} {listed : Array Bool} {a : Act} (HG : Grow S T) (hr : decide (Region.ready md ops listed = [i]) = true) (hi : ops[i]? = some oi) (hw : Region.wanted oi (yielded ops a.tmps) = true) (hd : oi.dst = some s) (hB : ∀ w, S w → B ≤ w.heap.size)
    (hrun : ∀ w, S w → T listed a w → (execOp a.eval oi).run P w = .ok (.value (.slice (some ⟨w.heap.size, 0, none⟩) n n)) (w.alloc o))
    (hT : ∀ w, S w → T listed a w → T (listed.setIfInBounds i true) (a.put (some s) (.slice (some ⟨w.heap.size, 0, none⟩) n n)) (w.alloc o))
    (h : ∀ g, B ≤ g → AnyG P md ops Q S T fuel (listed.setIfInBounds i true) (a.put (some s) (.slice (some ⟨g, 0, none⟩) n n))) : AnyG P md ops Q S T (fuel + 1) listed a := by
  refine anyG_step hr hi fun w hS hT' K hK => ?_
  rw [if_pos hw]
  unfold Oper.wp
  rw [hrun w hS hT']
  show K (a.put oi.dst _) _
  rw [hd]
  exact hK.out _ _ (HG.world _ _ hS ((Turn.refl _ _).alloc _)) (hT w hS hT') (h w.heap.size (hB w hS))
/-- A value is reckoned. -/
theorem anyG_val {i s : Nat} {v : Value} {oi : Oper} {fuel : Nat} {listed : Array Bool} {a : Act} (hr : decide (Region.ready md ops listed = [i]) = true) (hi : ops[i]? = some oi) (hw : Region.wanted oi (yielded ops a.tmps) = true) (hd : oi.dst = some s)
    (hrun : ∀ w, S w → T listed a w → (execOp a.eval oi).run P w = .ok (.value v) w)
    (hins : ∀ l a w, T (l.setIfInBounds i true) (a.put (some s) v) w ↔ T l a w)
    (h : AnyG P md ops Q S T fuel (listed.setIfInBounds i true) (a.put (some s) v)) : AnyG P md ops Q S T (fuel + 1) listed a := by
  refine anyG_step hr hi fun w hS hT' K hK => ?_
  rw [if_pos hw]
  unfold Oper.wp
  rw [hrun w hS hT']
  show K (a.put oi.dst _) _
  rw [hd]
  exact hK.out _ _ hS ((hins _ _ _).2 hT') h
/-- The first of two rows is laid. -/
theorem NewTwo.one {s1 s2 : Tmp} {i n1 n2 B : Nat} {o1 o2 : Obj} {l : Array Bool} {a : Act} {w : World} (h : NewTwo s1 s2 n1 n2 B o1 o2 l a w) (hs : s1 < a.tmps.size) (hne : s1 ≠ s2) (ho : (w.alloc o1).heap[w.heap.size]? = some o1) : NewTwo s1 s2 n1 n2 B o1 o2 (l.setIfInBounds i true) (a.put (some s1) (.slice (some ⟨w.heap.size, 0, none⟩) n1 n1)) (w.alloc o1) := by
  refine ⟨fun g e hB => ?_, fun g e hB => ?_⟩
  · rw [getD_putS hs] at e
    cases e
    exact ho
  · rw [getD_putN hne] at e
    exact ((Turn.refl (fun _ => False) w).alloc o1).obj (h.2 g e hB) (fun e => e)
theorem NewTwo.two {s1 s2 : Tmp} {i n1 n2 B : Nat} {o1 o2 : Obj} {l : Array Bool} {a : Act} {w : World} (h : NewTwo s1 s2 n1 n2 B o1 o2 l a w) (hs : s2 < a.tmps.size) (hne : s2 ≠ s1) (ho : (w.alloc o2).heap[w.heap.size]? = some o2) : NewTwo s1 s2 n1 n2 B o1 o2 (l.setIfInBounds i true) (a.put (some s2) (.slice (some ⟨w.heap.size, 0, none⟩) n2 n2)) (w.alloc o2) := by
  refine ⟨fun g e hB => ?_, fun g e hB => ?_⟩
  · rw [getD_putN hne] at e
    exact ((Turn.refl (fun _ => False) w).alloc o2).obj (h.1 g e hB) (fun e => e)
  · rw [getD_putS hs] at e
    cases e
    exact ho
end
end Go.Proofs.Ytigkmdjdnkbdkaa
