/- A region that draws and makes a row of one byte, and a text of it. -/
import Derived.Test.YtmifchdmlbcclaaGrow
import Derived.Test.YtmifchdmlbcclaaRows
namespace Go.Proofs.Ytmifchdmlbcclaa
open Go.RowKit

/-- A row of one element that the region makes: where its slot points. -/
def NewSl (s : Tmp) (B : Nat) (o : Obj) (_ : Array Bool) (a : Act) (w : World) : Prop := ∀ g, a.tmps.getD s undef = .slice (some ⟨g, 0, none⟩) 1 1 → B ≤ g → w.heap[g]? = some o
theorem getD_put_ne {a : Act} {s d : Tmp} {v : Value} (h : d ≠ s) : (a.put (some d) v).tmps.getD s undef = a.tmps.getD s undef := by
  show (a.tmps.setIfInBounds d v).getD s undef = _
  rw [Array.getD_eq_getD_getElem?, Array.getD_eq_getD_getElem?, Array.getElem?_setIfInBounds_ne h]
theorem NewSl.ins {s d : Tmp} {i B : Nat} {o : Obj} {v : Value} (h : d ≠ s) : ∀ l a w, NewSl s B o (l.setIfInBounds i true) (a.put (some d) v) w ↔ NewSl s B o l a w := fun l a w => by
  unfold NewSl
  rw [getD_put_ne h]
theorem Grow.heldSl (w0 : World) (L : List (Nat × Obj)) (s : Tmp) (B : Nat) (o : Obj) : Grow (fun w => Pure w0 w ∧ Held L w) (NewSl s B o) := ⟨fun _ _ h t => ⟨h.1.pure t, h.2.pure t⟩, fun _ _ _ _ h t g e hB => t.obj (h g e hB) (fun e => e)⟩
theorem infoU8z : (Try.prog.info? 5).map (fun i => (i.zero, i.size)) = some (some (.int .u8 0), 1) := by kernel_rfl

section
variable {ops : Array Oper} {Q : Exit → Act → World → Prop} {md : Region.Mode} {S : World → Prop}

/-- The row is made. -/
theorem anyG_u8 {i s B : Nat} {x : Operand} {v : UInt8} {oi : Oper} {fuel : Nat} {listed : Array Bool} {a : Act} (HG : Grow S (NewSl s B (.cells (u8s [v]).toArray 5 (0, 0)))) (hr : decide (Region.ready md ops listed = [i]) = true) (hi : ops[i]? = some oi)
    (hw : Region.wanted oi (yielded ops a.tmps) = true) (ho : oi.op = .buildSlice 61 1 #[(0, x)]) (hx : a.eval x = u8 v) (hd : oi.dst = some s) (hB : ∀ w, S w → B ≤ w.heap.size) (hs : s < a.tmps.size)
    (h : ∀ g, B ≤ g → AnyG Try.prog md ops Q S (NewSl s B (.cells (u8s [v]).toArray 5 (0, 0))) fuel (listed.setIfInBounds i true) (a.put (some s) (.slice (some ⟨g, 0, none⟩) 1 1))) :
    AnyG Try.prog md ops Q S (NewSl s B (.cells (u8s [v]).toArray 5 (0, 0))) (fuel + 1) listed a := by
  refine anyG_step hr hi fun w hS hT K hK => ?_
  rw [if_pos hw]
  have hinf := infoU8z
  cases hie : Try.prog.info? 5 with
  | none => rw [hie] at hinf; simp at hinf
  | some ie =>
    rw [hie] at hinf
    simp only [Option.map_some, Option.some.injEq, Prod.mk.injEq] at hinf
    have hp : Pure w (w.alloc (.cells (u8s [v]).toArray 5)) := (Turn.refl _ _).alloc _
    refine wp_buildSlice 61 5 1 #[(0, x)] ho (u8s [v]).toArray ie _ Try.underlying61 hie hinf.1 (by rw [hinf.2]; omega) (by rw [hinf.2]; omega) ?_ ?_
    · rw [hinf.2]
      simp [Instr.fill, hx, Value.cells, u8s, u8, show Array.range 1 = #[0] from rfl]
    · rw [hd]
      refine hK.out _ _ (HG.world _ _ hS hp) (fun g e _ => ?_) (h w.heap.size (hB w hS))
      have e2 : (a.put (some s) (.slice (some ⟨w.heap.size, 0, none⟩) 1 1)).tmps.getD s undef = .slice (some ⟨w.heap.size, 0, none⟩) 1 1 := by
        show (a.tmps.setIfInBounds s _).getD s undef = _
        rw [Array.getD_eq_getD_getElem?, Array.getElem?_setIfInBounds_self_of_lt hs]; rfl
      rw [e2] at e
      cases e
      exact heap_alloc_new _ _
/-- Its text. -/
theorem anyG_conv8 {i s d B g : Nat} {y : Operand} {v : UInt8} {oi : Oper} {fuel : Nat} {listed : Array Bool} {a : Act} (hr : decide (Region.ready md ops listed = [i]) = true) (hi : ops[i]? = some oi)
    (hw : Region.wanted oi (yielded ops a.tmps) = true) (ho : oi.op = .convert 61 9 y) (hy : a.eval y = .slice (some ⟨g, 0, none⟩) 1 1) (hys : a.tmps.getD s undef = .slice (some ⟨g, 0, none⟩) 1 1) (hg : B ≤ g) (hd : oi.dst = some d) (hne : d ≠ s)
    (h : AnyG Try.prog md ops Q S (NewSl s B (.cells (u8s [v]).toArray 5 (0, 0))) fuel (listed.setIfInBounds i true) (a.put (some d) (.string (bstr [v])))) :
    AnyG Try.prog md ops Q S (NewSl s B (.cells (u8s [v]).toArray 5 (0, 0))) (fuel + 1) listed a := by
  refine anyG_step hr hi fun w hS hT K hK => ?_
  rw [if_pos hw]
  have hb := hT g hys hg
  have hcv := conv_block (P := Try.prog) w 61 5 9 5 (0, 0) Try.underlying61 Try.underlying5 Try.underlying9 g 1 [v] 1 rfl hb
  unfold Oper.wp execOp
  simp only [ho, hy, Sem.run_bind, hcv, Result.andThen_ok]
  show K (a.put oi.dst _) _
  rw [hd]
  exact hK.out _ _ hS ((NewSl.ins hne _ _ _).2 hT) h
end
end Go.Proofs.Ytmifchdmlbcclaa
