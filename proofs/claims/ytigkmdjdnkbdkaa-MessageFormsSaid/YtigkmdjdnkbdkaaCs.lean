/- A value of any number of cells is written into the middle of a block. -/
import Derived.Test.YtigkmdjdnkbdkaaBase
namespace Go.Proofs.Ytigkmdjdnkbdkaa
open Go.RowKit

theorem run_storeVar_cs {P : Program} (w : World) (b o : Nat) (ty : TypeId) (v : Value) (cs : List Value) (hv : v.cells = cs.toArray) (ht : w.there b o cs.length) (hi : (P.info? ty).map (·.size) = some cs.length) (h1 : ∀ u ∈ cs, u.oneCell' = true) :
    (storeVar ty ⟨b, o, none⟩ v).run P w = .ok () (w.setCells b o cs) := by
  have := run_storeCells_cells (P := P) b o cs 0 w (fun j hj => by simpa using (ht j hj).1) (fun j hj => by simpa using (ht j hj).2) h1
  cases hq : P.info? ty with
  | none => simp [hq] at hi
  | some i =>
    have hs : cs.length = i.size := by simp [hq] at hi; omega
    simp only [Nat.add_zero] at this
    simp [storeVar, sizeOf, typeInfo, hq, hv, hs, this]
theorem wpList_store_cs {P : Program} {ops : Array Oper} {rest : List Oper} {op : Oper} {a : Act} {w : World} {Q : Exit → Act → World → Prop} (hgd : op.guard = none) (ty : TypeId) (x y : Operand) (ho : op.op = .store ty x y)
    (g o : Nat) (v : Value) (cs old : List Value) (T : TypeId) (hx : a.eval x = .pointer (some ⟨g, o, none⟩)) (hy : a.eval y = v) (hv : v.cells = cs.toArray) (hg : w.heap[g]? = some (.cells old.toArray T (0, 0))) (hl : o + cs.length ≤ old.length)
    (hi : (P.info? ty).map (·.size) = some cs.length) (h1 : ∀ u ∈ cs, u.oneCell' = true) (new : List Value) (hn : old.take o ++ cs ++ old.drop (o + cs.length) = new)
    (h : ∀ w', w'.heap[g]? = some (.cells new.toArray T (0, 0)) → Turn (fun k => k = g) w w' → w'.heap.size = w.heap.size → wpList P ops Q rest (a.put op.dst undef) w') : wpList P ops Q (op :: rest) a w := by
  refine wpList_plain hgd fun K hK => ?_
  have ht : w.there g o cs.length := fun j hj => by
    rw [cell_of_row w g (o + j) _ T (0, 0) hg, frozen_of_row w g (o + j) _ T hg]
    exact ⟨by simp; omega, rfl⟩
  have hr := run_storeVar_cs (P := P) w g o ty v cs hv ht hi h1
  unfold Oper.wp execOp
  simp only [ho, hx, hy, Instr.storeAt, Instr.sureAddr, Sem.run_bind, Sem.run_pure, Result.andThen_ok, hr]
  refine hK _ _ (h _ ?_ ?_ (setCells_size _ _ _ _))
  · have := setCells_heap g cs o w _ T (0, 0) hg (by simpa using hl)
    rw [← hn]
    simpa using this
  · exact ⟨World.os_setCells _ _ _ _, setCells_tape _ _ _ _, World.output_setCells _ _ _ _, by rw [setCells_size]; exact Nat.le_refl _, fun q hq hn => World.heap_setCells_other w g _ _ hq hn⟩
theorem one_mem {v : Value} (h : v.oneCell' = true) : ∀ u ∈ [v], u.oneCell' = true := fun u hu => by rcases List.mem_singleton.1 hu with rfl; exact h
end Go.Proofs.Ytigkmdjdnkbdkaa
