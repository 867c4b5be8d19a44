/- A region that draws its order, of which some operations are taken first and the others are forced: one after another. -/
import Derived.Test.YtigkmdjdnkbdkaaBase
import Derived.Deep.RegionHeld3
namespace Go.Proofs.Ytigkmdjdnkbdkaa
open Go.RowKit

/-- Operations one after another; behind each S is to be shown. -/
def wpSeqH (P : Program) (ops : Array Oper) (Q : Exit → Act → World → Prop) (S : World → Prop) : List Oper → Act → World → Prop
  | [], a, w => Q .normal a w
  | o :: rest, a, w => ∀ K : Act → World → Prop, (∀ a' w', S w' → wpSeqH P ops Q S rest a' w' → K a' w') → if Region.wanted o (yielded ops a.tmps) = true then Oper.wp P o a w K Q else K (a.put o.dst undef) w
theorem wpSeqH_step {P : Program} {ops : Array Oper} {Q : Exit → Act → World → Prop} {S : World → Prop} {o : Oper} {rest : List Oper} {a : Act} {w : World}
    (h : ∀ K : Act → World → Prop, Hid (∀ a' w', S w' → wpSeqH P ops Q S rest a' w' → K a' w') → if Region.wanted o (yielded ops a.tmps) = true then Oper.wp P o a w K Q else K (a.put o.dst undef) w) : wpSeqH P ops Q S (o :: rest) a w := fun K hK => h K (Lib.hid hK)
theorem wpSeqH_nil {P : Program} {ops : Array Oper} {Q : Exit → Act → World → Prop} {S : World → Prop} {a : Act} {w : World} (h : Q .normal a w) : wpSeqH P ops Q S [] a w := h
/-- A whole block is written. -/
theorem wpSeqH_store_blk {P : Program} {ops : Array Oper} {Q : Exit → Act → World → Prop} {S : World → Prop} {op : Oper} {rest : List Oper} {a : Act} {w : World} (hgd : op.guard = none) (ty : TypeId) (x y : Operand) (ho : op.op = .store ty x y)
    (g : Nat) (old : Array Value) (cs : List Value) (T : TypeId) (hx : a.eval x = .pointer (some ⟨g, 0, none⟩)) (hy : a.eval y = .agg cs.toArray) (hg : w.heap[g]? = some (.cells old T (0, 0))) (hs : old.size = cs.length)
    (hi : (P.info? ty).map (·.size) = some cs.length) (h1 : ∀ v ∈ cs, v.oneCell' = true)
    (h : ∀ w', w'.heap[g]? = some (.cells cs.toArray T (0, 0)) → Turn (fun k => k = g) w w' → w'.heap.size = w.heap.size → S w' ∧ wpSeqH P ops Q S rest (a.put op.dst undef) w') : wpSeqH P ops Q S (op :: rest) a w := by
  refine wpSeqH_step fun K hK => ?_
  rw [if_pos (by simp [Region.wanted, hgd])]
  refine wp_store_mid ty x y ho g 0 cs.toArray hx hy ?_ (by simpa using hi) (all_oneCell_toArray h1) ?_
  · intro j hj
    rw [Nat.zero_add, cell_of_row w g j old T (0, 0) hg, frozen_of_row w g j old T hg]
    exact ⟨by simp at hj ⊢; omega, rfl⟩
  · have hw := setCells_heap g cs 0 w old T (0, 0) hg (by omega)
    have := h (w.setCells g 0 cs) (by rw [hw]; simp [List.drop_eq_nil_of_le, hs]) ⟨World.os_setCells _ _ _ _, setCells_tape _ _ _ _, World.output_setCells _ _ _ _, by rw [setCells_size]; exact Nat.le_refl _, fun k hk hn => World.heap_setCells_other w g _ _ hk hn⟩ (setCells_size _ _ _ _)
    simpa using hK.out _ _ this.1 this.2
/-- A new variable of several cells. -/
theorem wpSeqH_allocZ {P : Program} {ops : Array Oper} {Q : Exit → Act → World → Prop} {S : World → Prop} {op : Oper} {rest : List Oper} {a : Act} {w : World} (hgd : op.guard = none) (t : TypeId) (ho : op.op = .alloc t) (cs : List Value) (hz : (P.info? t).bind (·.zero) = some (.agg cs.toArray))
    (h : ∀ g w', g = w.heap.size → w'.heap[g]? = some (.cells cs.toArray t (0, 0)) → Pure w w' → w'.heap.size = g + 1 → S w' ∧ wpSeqH P ops Q S rest (a.put op.dst (.pointer (some ⟨g, 0, none⟩))) w') : wpSeqH P ops Q S (op :: rest) a w := by
  refine wpSeqH_step fun K hK => ?_
  rw [if_pos (by simp [Region.wanted, hgd])]
  obtain ⟨i, hi, hzi⟩ := Option.bind_eq_some_iff.1 hz
  have := h w.heap.size (w.alloc (.cells cs.toArray t)) rfl (heap_alloc_new _ _) ((Turn.refl _ _).alloc _) (by simp)
  unfold Oper.wp execOp
  simp [ho, Instr.alloc, zeroValue, typeInfo, hi, hzi, newVar, newRow, newObj, Result.andThen, Value.cells]
  exact hK.out _ _ this.1 this.2
/-- One operation that is forced. -/
theorem wpAnyH_step {P : Program} {md : Region.Mode} {ops : Array Oper} {Q : Exit → Act → World → Prop} {S : World → Prop} {i fuel : Nat} {o : Oper} {listed : Array Bool} {a : Act} {w : World} (hr : decide (Region.ready md ops listed = [i]) = true) (ho : ops[i]? = some o)
    (h : ∀ K : Act → World → Prop, Hid (∀ a' w', S w' → wpAnyH P md ops Q S fuel (listed.setIfInBounds i true) a' w' → K a' w') → if Region.wanted o (yielded ops a.tmps) = true then Oper.wp P o a w K Q else K (a.put o.dst undef) w) : wpAnyH P md ops Q S (fuel + 1) listed a w :=
  wpAnyH_ready (rs := [i]) (by simpa using hr) (by simp) (AllReadyH.cons ho (fun K hK => h K (Lib.hid fun a' w' hS hs => hK.out a' w' hS fun _ => hs)) AllReadyH.nil)
/-- Are these forced, one after another? -/
def forcedB (md : Region.Mode) (ops : Array Oper) : List Nat → Array Bool → Bool
  | [], listed => (Region.ready md ops listed).isEmpty
  | i :: l, listed => decide (Region.ready md ops listed = [i]) && (ops[i]?).isSome && forcedB md ops l (listed.setIfInBounds i true)
theorem wpAnyH_seq {P : Program} {md : Region.Mode} {ops : Array Oper} {Q : Exit → Act → World → Prop} {S : World → Prop} : ∀ (l : List Nat) (fuel : Nat) (listed : Array Bool) (a : Act) (w : World), forcedB md ops l listed = true → l.length ≤ fuel →
    wpSeqH P ops Q S (l.filterMap fun i => ops[i]?) a w → wpAnyH P md ops Q S fuel listed a w
  | [], fuel, listed, a, w, hf, _, h => wpAnyH_done (by simpa [forcedB] using hf) h fuel
  | i :: l, 0, listed, a, w, hf, hl, h => by simp at hl
  | i :: l, fuel + 1, listed, a, w, hf, hl, h => by
    simp only [forcedB, Bool.and_eq_true, decide_eq_true_eq] at hf
    obtain ⟨⟨hr, ho⟩, hrest⟩ := hf
    obtain ⟨o, ho⟩ := Option.isSome_iff_exists.1 ho
    simp only [List.filterMap_cons, ho] at h
    refine wpAnyH_ready (rs := [i]) hr (by simp) (AllReadyH.cons ho (fun K hK => ?_) AllReadyH.nil)
    exact h K fun a' w' hS hs => hK.out a' w' hS fun _ => wpAnyH_seq l fuel _ a' w' hrest (by simpa using hl) hs
end Go.Proofs.Ytigkmdjdnkbdkaa
