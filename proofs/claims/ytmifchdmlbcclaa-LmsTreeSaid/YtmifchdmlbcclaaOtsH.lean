/- Chapter 4, the program: kinds. -/
import Derived.Test.YtmifchdmlbcclaaOtsD
import Derived.Deep.AppendLies
namespace Go.Proofs.Ytmifchdmlbcclaa
open Go.RowKit

/-- A kind's numbers. -/
abbrev kindC (k : Nat × Nat × Nat) : List Value := [.int .i64 (k.1 : Int), .int .i64 (k.2.1 : Int), .int .i64 (k.2.2 : Int)]
theorem zeroK : (Try.prog.info? 64).bind (·.zero) = some (.agg (kindC (0, 0, 0)).toArray) := by kernel_rfl
theorem infoK : (Try.prog.info? 64).map (·.size) = some 3 := by kernel_rfl
theorem builtK3 : Try.prog.built 64 [(0, .int .i64 4), (1, .int .i64 67), (2, .int .i64 4)] = some (kindC (4, 67, 4)).toArray := by kernel_rfl
theorem builtK4 : Try.prog.built 64 [(0, .int .i64 8), (1, .int .i64 34), (2, .int .i64 0)] = some (kindC (8, 34, 0)).toArray := by kernel_rfl
theorem builtK0 : Try.prog.built 64 [] = some (kindC (0, 0, 0)).toArray := by kernel_rfl
theorem wpList_buildK {ops : Array Oper} {rest : List Oper} {o : Oper} {a : Act} {w : World} {Q : Exit → Act → World → Prop} (hg : o.guard = none) (parts : Array (Nat × Operand)) (ho : o.op = .build 64 parts) (l : List (Nat × Value)) (hl : (parts.map fun (i, x) => (i, a.eval x)).toList = l) (c : List Value)
    (hb : Try.prog.built 64 l = some c.toArray) (h : wpList Try.prog ops Q rest (a.put o.dst (.agg c.toArray)) w) : wpList Try.prog ops Q (o :: rest) a w := by
  refine wpList_plain hg fun _ hK => ?_
  have hb' : Try.prog.built 64 (parts.map fun (i, x) => (i, a.eval x)).toList = some c.toArray := by rw [hl, hb]
  refine wp_build 64 _ ho (by rw [hb']; rfl) ?_
  rw [hb']
  exact hK _ _ h
/-- Is it a kind's number? -/
def kindB (k : Int) : Bool := decide (k = 3 ∨ k = 4)

set_option maxRecDepth 100000 in
set_option maxHeartbeats 1000000 in
theorem kindOf_any (w : World) (k : Int) : Calls Try.prog 33 #[.int .i64 k] w fun e w' => e = .returned (.tuple #[.agg (kindC (parV k)).toArray, .bool (kindB k)]) ∧ Pure w w' := by
  by_cases h3 : k = 3
  · subst h3
    rw [show parV 3 = (4, 67, 4) from rfl, show kindB 3 = true from rfl]
    go_enter Try.func33, Try.ntmps33
    go_wp2_with (refine wpList_allocZ rfl 64 rfl (kindC (0, 0, 0)) zeroK ?_)
    intro g w1 e1 c1 t1 s1
    have lg : w.heap.size ≤ g := by omega
    clear e1
    go_wp2_with (first | (refine wpList_buildK rfl _ rfl _ rfl _ builtK3 ?_) | (refine wpList_store_blk rfl 64 _ _ rfl g _ (kindC (4, 67, 4)) _ rfl rfl c1 rfl (by rw [infoK]; rfl) (by simp [Value.oneCell']) ?_))
    intro w2 c2 t2 _
    have PT := Lib.hid (t1.trans t2 fun x hx e => by omega : Pure w w2)
    have HC := Lib.hid c2
    clear c1 t1 s1 c2 t2
    go_wp2
    exact bodyPost_ret (v := .tuple #[.agg (kindC (4, 67, 4)).toArray, .bool true]) (results_cell2 Try.results33 _ _ g _ (kindC (4, 67, 4)).toArray _ _ rfl HC.out Try.underlying64 rfl (by rw [infoK]; rfl)) rfl ⟨rfl, PT.out⟩
  · by_cases h4 : k = 4
    · subst h4
      rw [show parV 4 = (8, 34, 0) from rfl, show kindB 4 = true from rfl]
      go_enter Try.func33, Try.ntmps33
      go_wp2_with (refine wpList_allocZ rfl 64 rfl (kindC (0, 0, 0)) zeroK ?_)
      intro g w1 e1 c1 t1 s1
      have lg : w.heap.size ≤ g := by omega
      clear e1
      go_wp2_with (first | (refine wpList_buildK rfl _ rfl _ rfl _ builtK4 ?_) | (refine wpList_store_blk rfl 64 _ _ rfl g _ (kindC (8, 34, 0)) _ rfl rfl c1 rfl (by rw [infoK]; rfl) (by simp [Value.oneCell']) ?_))
      intro w2 c2 t2 _
      have PT := Lib.hid (t1.trans t2 fun x hx e => by omega : Pure w w2)
      have HC := Lib.hid c2
      clear c1 t1 s1 c2 t2
      go_wp2
      exact bodyPost_ret (v := .tuple #[.agg (kindC (8, 34, 0)).toArray, .bool true]) (results_cell2 Try.results33 _ _ g _ (kindC (8, 34, 0)).toArray _ _ rfl HC.out Try.underlying64 rfl (by rw [infoK]; rfl)) rfl ⟨rfl, PT.out⟩
    · have q3 : (k == 3) = false := by simp; exact h3
      have q4 : (k == 4) = false := by simp; exact h4
      have e : parV k = (0, 0, 0) := by rw [parV, if_neg h3, if_neg h4]
      have e2 : kindB k = false := decide_eq_false (by omega)
      rw [e, e2]
      clear e e2 h3 h4
      go_enter Try.func33, Try.ntmps33
      go_wp2_with (refine wpList_allocZ rfl 64 rfl (kindC (0, 0, 0)) zeroK ?_)
      intro g w1 e1 c1 t1 s1
      have lg : w.heap.size ≤ g := by omega
      clear e1
      go_wp2_with (first | (refine wpList_buildK rfl _ rfl _ rfl _ builtK0 ?_) | (refine wpList_store_blk rfl 64 _ _ rfl g _ (kindC (0, 0, 0)) _ rfl rfl c1 rfl (by rw [infoK]; rfl) (by simp [Value.oneCell']) ?_))
      intro w2 c2 t2 _
      have PT := Lib.hid (t1.trans t2 fun x hx e => by omega : Pure w w2)
      have HC := Lib.hid c2
      clear c1 t1 s1 c2 t2
      go_wp2
      exact bodyPost_ret (v := .tuple #[.agg (kindC (0, 0, 0)).toArray, .bool false]) (results_cell2 Try.results33 _ _ g _ (kindC (0, 0, 0)).toArray _ _ rfl HC.out Try.underlying64 rfl (by rw [infoK]; rfl)) rfl ⟨rfl, PT.out⟩
end Go.Proofs.Ytmifchdmlbcclaa
