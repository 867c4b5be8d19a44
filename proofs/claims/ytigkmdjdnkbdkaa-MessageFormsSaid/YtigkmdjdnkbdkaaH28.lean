/- Hashes as values; new variables of several cells. -/
import Derived.Test.YtigkmdjdnkbdkaaBase
import Derived.IntWalk
import Derived.Test.YtigkmdjdnkbdkaaRows
namespace Go.Proofs.Ytigkmdjdnkbdkaa
open Go.RowKit

theorem info8H : (Try.prog.info? 5).map (fun i => (i.zero, i.size, i.bytes)) = some (some (.int .u8 0), 1, 1) := by kernel_rfl
theorem zero28 : (Try.prog.info? 45).bind (·.zero) = some (.agg (u8s (List.replicate 32 0)).toArray) := by kernel_rfl
theorem info28 : (Try.prog.info? 45).map (·.size) = some 32 := by kernel_rfl
theorem ex28 : ∃ X : List Value, X.length = 32 ∧ Hid ((Try.prog.info? 45).bind (·.zero) = some (.agg X.toArray)) := ⟨_, rfl, Lib.hid zero28⟩
theorem info28_l {l : List UInt8} (h : l.length = 32) : (Try.prog.info? 45).map (·.size) = some (u8s l).length := by rw [u8s_length, h]; exact info28
theorem info28_a {l : List UInt8} (h : l.length = 32) : (Try.prog.info? 45).map (·.size) = some (u8s l).toArray.size := by rw [List.size_toArray]; exact info28_l h
theorem size28 {X : List Value} {l : List UInt8} (hX : X.length = 32) (h : l.length = 32) : X.toArray.size = (u8s l).length := by rw [List.size_toArray, hX, u8s_length, h]
theorem Turn.range {S : Nat → Prop} {w w' : World} (h : Turn S w w') {b o : Nat} {cs : List Value} (hr : w.rangeAt b o cs) (hn : ¬ S b) : w'.rangeAt b o cs := fun j v hj => h.cell (hr j v hj) hn
theorem Turn.there {S : Nat → Prop} {w w' : World} (h : Turn S w w') {b o n : Nat} (ht : w.there b o n) (hn : ¬ S b) : w'.there b o n := fun j hj => by
  obtain ⟨h1, h2⟩ := ht j hj
  obtain ⟨v, hv⟩ := Option.isSome_iff_exists.1 h1
  have hb : b < w.heap.size := World.block_lt_of_cell? w _ hv
  exact ⟨by rw [h.cell hv hn]; rfl, by rw [World.frozen?_of_block (h.block b hb hn)]; exact h2⟩
theorem there_row {w : World} {g n : Nat} {X : List Value} {T : TypeId} (h : w.heap[g]? = some (.cells X.toArray T (0, 0))) (hX : X.length = n) : w.there g 0 n := fun j hj => by
  rw [Nat.zero_add, cell_of_row w g j _ _ _ h, frozen_of_row w g j _ _ h]
  exact ⟨by simp; omega, rfl⟩
theorem eq28 (w : World) {a b : List UInt8} (ha : a.length = 32) (hb : b.length = 32) : (binOp .eql 45 (hv a) (hv b)).run Try.prog w = .ok (.bool (a == b)) w := by
  obtain ⟨i, hi, h1, h2, h3⟩ := info_parts info8H
  exact eql_bytes w 45 5 32 Try.underlying45 Try.underlying5 (fun w => by simp [sizeOf, typeInfo, hi, h2]) a b ha hb
theorem neq28 (w : World) {a b : List UInt8} (ha : a.length = 32) (hb : b.length = 32) : (binOp .neq 45 (hv a) (hv b)).run Try.prog w = .ok (.bool (!(a == b))) w := by
  obtain ⟨i, hi, h1, h2, h3⟩ := info_parts info8H
  exact neq_bytes w 45 5 32 Try.underlying45 Try.underlying5 (fun w => by simp [sizeOf, typeInfo, hi, h2]) a b ha hb
theorem same28 (w : World) {a : List UInt8} (ha : a.length = 32) : (binOp .eql 45 (hv a) (hv a)).run Try.prog w = .ok (.bool true) w := by
  rw [eq28 w ha ha, beq_self_eq_true]
theorem wpList_load_mid_w {P : Program} {ops : Array Oper} {rest : List Oper} {op : Oper} {a : Act} {w : World} {Q : Exit → Act → World → Prop} (hw : Region.wanted op (yielded ops a.tmps) = true) (ty : TypeId) (x : Operand) (ho : op.op = .load ty x)
    (b o : Nat) (hx : a.eval x = .pointer (some ⟨b, o, none⟩)) (cs : List Value) (d : TypeDesc) (hc : w.rangeAt b o cs)
    (hu : P.underlying ty = some d) (hd : d.isRow = true) (hi : (P.info? ty).map (·.size) = some cs.length)
    (h : wpList P ops Q rest (a.put op.dst (.agg cs.toArray)) w) : wpList P ops Q (op :: rest) a w :=
  wpList_step fun K hK => by rw [if_pos hw]; exact wp_load_mid ty x ho b o hx cs d hc hu hd hi (hK _ _ h)
theorem eqg28 (w : World) (x y : Operand) (l m : List UInt8) : (eqGuard .eql 45 x y (hv l) (hv m)).run Try.prog w = .ok () w := by
  unfold eqGuard
  simp
theorem wpList_eql28 {ops : Array Oper} {rest : List Oper} {op : Oper} {a : Act} {w : World} {Q : Exit → Act → World → Prop} (hw : Region.wanted op (yielded ops a.tmps) = true) (x y : Operand) (ho : op.op = .binOp .eql 45 x y 45)
    (l m : List UInt8) (hl : l.length = 32) (hm : m.length = 32) (hx : a.eval x = hv l) (hy : a.eval y = hv m) (h : wpList Try.prog ops Q rest (a.put op.dst (.bool (l == m))) w) : wpList Try.prog ops Q (op :: rest) a w :=
  wpList_step fun K hK => by
    rw [if_pos hw]
    have hr : (do eqGuard .eql 45 x y (hv l) (hv m); binOp .eql 45 (hv l) (hv m) : Sem Value).run Try.prog w = .ok (.bool (l == m)) w := by
      rw [Sem.run_bind, eqg28, Result.andThen_ok, eq28 w hl hm]
    unfold Oper.wp execOp
    simp only [ho, hx, hy]
    rw [Sem.run_bind, hr]
    exact hK _ _ h
theorem wpList_same28 {ops : Array Oper} {rest : List Oper} {op : Oper} {a : Act} {w : World} {Q : Exit → Act → World → Prop} (hw : Region.wanted op (yielded ops a.tmps) = true) (x y : Operand) (ho : op.op = .binOp .eql 45 x y 45)
    (l : List UInt8) (hl : l.length = 32) (hx : a.eval x = hv l) (hy : a.eval y = hv l) (h : wpList Try.prog ops Q rest (a.put op.dst (.bool true)) w) : wpList Try.prog ops Q (op :: rest) a w :=
  wpList_eql28 hw x y ho l l hl hl hx hy (by rw [beq_self_eq_true]; exact h)
end Go.Proofs.Ytigkmdjdnkbdkaa
