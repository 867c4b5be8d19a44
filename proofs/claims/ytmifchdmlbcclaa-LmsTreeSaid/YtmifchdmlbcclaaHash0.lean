/- Hashes as values, for seats without package mlog. -/
import Derived.Test.YtmifchdmlbcclaaBe
import Derived.Deep.DeepCutAuto
import Derived.Deep.RegionHeld3
import Derived.Great.Walk
import Derived.IntWalk
namespace Go.Proofs.Ytmifchdmlbcclaa
open Go.RowKit

theorem zero28 : (Try.prog.info? 23).bind (·.zero) = some (.agg (u8s (List.replicate 32 0)).toArray) := by kernel_rfl
theorem info28 : (Try.prog.info? 23).map (·.size) = some 32 := by kernel_rfl
theorem ex28 : ∃ X : List Value, X.length = 32 ∧ Hid ((Try.prog.info? 23).bind (·.zero) = some (.agg X.toArray)) := ⟨_, rfl, Lib.hid zero28⟩
theorem info28_l {l : List UInt8} (h : l.length = 32) : (Try.prog.info? 23).map (·.size) = some (u8s l).length := by rw [u8s_length, h]; exact info28
theorem info28_a {l : List UInt8} (h : l.length = 32) : (Try.prog.info? 23).map (·.size) = some (u8s l).toArray.size := by rw [List.size_toArray]; exact info28_l h
theorem size28 {X : List Value} {l : List UInt8} (hX : X.length = 32) (h : l.length = 32) : X.toArray.size = (u8s l).length := by rw [List.size_toArray, hX, u8s_length, h]

theorem Turn.range {S : Nat → Prop} {w w' : World} (h : Turn S w w') {b o : Nat} {cs : List Value} (hr : w.rangeAt b o cs) (hn : ¬ S b) : w'.rangeAt b o cs := fun j v hj => h.cell (hr j v hj) hn
theorem Turn.there {S : Nat → Prop} {w w' : World} (h : Turn S w w') {b o n : Nat} (ht : w.there b o n) (hn : ¬ S b) : w'.there b o n := fun j hj => by
  obtain ⟨h1, h2⟩ := ht j hj
  obtain ⟨v, hv⟩ := Option.isSome_iff_exists.1 h1
  have hb : b < w.heap.size := World.block_lt_of_cell? w _ hv
  exact ⟨by rw [h.cell hv hn]; rfl, by rw [World.frozen?_of_block (h.block b hb hn)]; exact h2⟩
theorem there_row {w : World} {g n : Nat} {X : List Value} {T : TypeId} (h : w.heap[g]? = some (.cells X.toArray T (0, 0))) (hX : X.length = n) : w.there g 0 n := fun j hj => by
  rw [Nat.zero_add, cell_of_row w g j _ _ _ h, frozen_of_row w g j _ _ h]
  exact ⟨by simp; omega, rfl⟩


set_option maxHeartbeats 400000 in
theorem T_any (w : World) (l : List UInt8) (hl : l.length = 32) :
    Calls Try.prog 31 #[hv l] w fun e w' => e = .returned (.string (bstr l)) ∧ Pure w w' := by
  have hcv := conv_block (P := Try.prog) (w.alloc (.cells (u8s l).toArray 23)) 61 5 9 23 (0, 0) Try.underlying61 Try.underlying5 Try.underlying9 w.heap.size 32 l 32 hl (heap_alloc_new _ _)
  go_enter Try.func31, Try.ntmps31
  go_wp2
  go_ret
  exact ⟨rfl, (Turn.refl _ w).alloc _⟩

theorem eq28 (w : World) {a b : List UInt8} (ha : a.length = 32) (hb : b.length = 32) : (binOp .eql 23 (hv a) (hv b)).run Try.prog w = .ok (.bool (a == b)) w := by
  obtain ⟨i, hi, h1, h2, h3⟩ := info_parts Try.infoU8S
  exact eql_bytes w 23 5 32 Try.underlying23 Try.underlying5 (fun w => by simp [sizeOf, typeInfo, hi, h2]) a b ha hb
theorem neq28 (w : World) {a b : List UInt8} (ha : a.length = 32) (hb : b.length = 32) : (binOp .neq 23 (hv a) (hv b)).run Try.prog w = .ok (.bool (!(a == b))) w := by
  obtain ⟨i, hi, h1, h2, h3⟩ := info_parts Try.infoU8S
  exact neq_bytes w 23 5 32 Try.underlying23 Try.underlying5 (fun w => by simp [sizeOf, typeInfo, hi, h2]) a b ha hb
theorem same28 (w : World) {a : List UInt8} (ha : a.length = 32) : (binOp .eql 23 (hv a) (hv a)).run Try.prog w = .ok (.bool true) w := by
  rw [eq28 w ha ha, beq_self_eq_true]
set_option maxHeartbeats 400000 in
theorem Num9_any (w : World) (x : Int) : Calls Try.prog 17 #[.int .i64 x] w fun e w' => e = .returned (.int .i64 x) ∧ w' = w := by
  go_enter Try.func17, Try.ntmps17
  go_wp2
  go_ret
  exact ⟨rfl, rfl⟩
end Go.Proofs.Ytmifchdmlbcclaa
