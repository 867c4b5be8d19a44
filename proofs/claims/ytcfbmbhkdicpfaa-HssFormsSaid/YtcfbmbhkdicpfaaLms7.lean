/- Chapter 5: the nodes beside a way, yielded. -/
import Derived.Test.YtcfbmbhkdicpfaaLms3
import Derived.Test.YtcfbmbhkdicpfaaRange
import Derived.Shelf.Abstract
namespace Go.Proofs.Ytcfbmbhkdicpfaa
open Go.RowKit

/-- The nodes beside a way, so many, behind one another. -/
def sideV (N : Nat → List UInt8) (r : Nat) : Nat → List UInt8
  | 0 => []
  | j + 1 => sideV N r j ++ N ((r / 2 ^ j) ^^^ 1)
theorem sideV_length {N : Nat → List UInt8} (hN : ∀ i, (N i).length = 32) (r : Nat) : ∀ j, (sideV N r j).length = 32 * j
  | 0 => rfl
  | j + 1 => by rw [sideV, List.length_append, sideV_length hN r j, hN]; omega
theorem xor1_lt {r : Nat} (h : r < 64) : (r ^^^ 1) = if r % 2 = 0 then r + 1 else r - 1 := by
  have : ∀ r : Fin 64, (r.val ^^^ 1) = if r.val % 2 = 0 then r.val + 1 else r.val - 1 := by decide
  exact this ⟨r, h⟩
theorem xor1_int {r : Nat} (h : r < 64) : bits .xor .i64 (r : Int) 1 = ((r ^^^ 1 : Nat) : Int) := by
  have : ∀ r : Fin 64, bits .xor .i64 (r.val : Int) 1 = ((r.val ^^^ 1 : Nat) : Int) := by decide
  exact this ⟨r, h⟩
/-- A way from a leaf up. -/
structure WayUp (r h M : Nat) : Prop where
  top : r / 2 ^ h = 1
  low : ∀ j, j < h → 2 ≤ r / 2 ^ j ∧ r / 2 ^ j < M
  big : M ≤ 64
  even : M % 2 = 0
theorem WayUp.next {r h M : Nat} (hw : WayUp r h M) (j : Nat) (hj : j < h) : ∃ s, s = (r / 2 ^ j) ^^^ 1 ∧ 0 < s ∧ s < M := by
  obtain ⟨h1, h2⟩ := hw.low j hj
  have h3 := hw.big
  have h4 := hw.even
  refine ⟨_, rfl, ?_⟩
  rw [xor1_lt (by omega)]
  split <;> omega
theorem wayUp_of {q h : Nat} (h1 : 1 ≤ h) (h5 : h ≤ 5) (hq : q < 2 ^ h) : WayUp (2 ^ h + q) h (2 * 2 ^ h) := by
  have hp : 1 ≤ 2 ^ h := Nat.one_le_two_pow
  have h32 : 2 ^ h ≤ 32 := by rcases (by omega : h = 1 ∨ h = 2 ∨ h = 3 ∨ h = 4 ∨ h = 5) with rfl | rfl | rfl | rfl | rfl <;> decide
  refine ⟨?_, fun j hj => ?_, by omega, by omega⟩
  · rw [Nat.add_comm, Nat.add_div_right _ hp, Nat.div_eq_of_lt hq]
  · have hj2 : 2 ≤ 2 ^ (h - j) := by
      have := Nat.pow_le_pow_right (n := 2) (by decide) (show 1 ≤ h - j by omega)
      simpa using this
    have e : 2 ^ h = 2 ^ (h - j) * 2 ^ j := by rw [← Nat.pow_add, show h - j + j = h by omega]
    have hpj := Nat.two_pow_pos j
    refine ⟨?_, ?_⟩
    · rw [Nat.le_div_iff_mul_le hpj]
      have := Nat.mul_le_mul_right (2 ^ j) hj2
      omega
    · exact Nat.lt_of_le_of_lt (Nat.div_le_self _ _) (by omega)
theorem wpListIn_load_mid {P : Program} {n : Nat} {ops : Array Oper} {rest : List Oper} {op : Oper} {a : Act} {w : World} {Q : Exit → Act → World → Prop} (hgd : op.guard = none) (ty : TypeId) (x : Operand) (ho : op.op = .load ty x)
    (b o : Nat) (hx : a.eval x = .pointer (some ⟨b, o, none⟩)) (cs : List Value) (d : TypeDesc) (hc : w.rangeAt b o cs)
    (hu : P.underlying ty = some d) (hd : d.isRow = true) (hi : (P.info? ty).map (·.size) = some cs.length)
    (h : wpListIn Fence.wide n P ops Q rest (a.put op.dst (.agg cs.toArray)) w) : wpListIn Fence.wide n P ops Q (op :: rest) a w :=
  wpListIn_plain hgd fun K hK => ⟨fun f _ => fnAny (.inl rfl) f, by
    rw [semAt_plain (.inl rfl) (by unfold Oper.noDefer; rw [ho])]
    have := wp_load_mid (P := P) (Q := Q) (K := K) ty x ho b o hx cs d hc hu hd hi (hK _ _ h)
    unfold Oper.wp at this
    exact uponIn_of_upon (.inl rfl) this⟩

theorem enters_beside : ∀ (args : Array Value) (w : World), (callFunc 133 args).run Try.prog w = .ok (.enter 133 args) w := enters_of Try.func133 (by kernel_rfl) rfl
/-- The two variables that the iterator holds. -/
def Beside (W : World) (gr gn g r M : Nat) (L : List (List UInt8)) : Prop := W.heap[gr]? = some (.cells #[.int .i64 (r : Int)] 3 (0, 0)) ∧ W.heap[gn]? = some (.cells #[.slice (some ⟨g, 0, none⟩) M M] 46 (0, 0)) ∧ W.heap[g]? = some (.cells (hrowV L).toArray 62 (0, 0))
set_option maxRecDepth 100000 in
set_option maxHeartbeats 4000000 in
theorem beside_any (w : World) (g r M : Nat) (L : List (List UInt8)) (hg : w.heap[g]? = some (.cells (hrowV L).toArray 62 (0, 0))) : Calls Try.prog 87 #[.slice (some ⟨g, 0, none⟩) M M, .int .i64 (r : Int)] w fun e w' =>
    ∃ gr gn, e = .returned (.func (.func 133) #[] #[.pointer (some ⟨gr, 0, none⟩), .pointer (some ⟨gn, 0, none⟩)]) ∧ Beside w' gr gn g r M L ∧ gn ≠ gr ∧ w.heap.size ≤ gn ∧ w.heap.size ≤ gr ∧ gn < w'.heap.size ∧ gr < w'.heap.size ∧ Pure w w' := by
  have HG := Lib.hid hg
  clear hg
  go_enter Try.func87, Try.ntmps87
  go_wp2
  go_ret
  have t1 : Pure w (w.alloc (.cells #[.slice (some ⟨g, 0, none⟩) M M] 46)) := (Turn.refl _ _).alloc _
  have t2 := t1.alloc (.cells #[.int .i64 (r : Int)] 3)
  refine ⟨_, _, rfl, ⟨?_, ?_, t2.obj HG.out (fun e => e)⟩, ?_, ?_, ?_, ?_, ?_, t2⟩
  · have := heap_alloc_new (w.alloc (.cells #[.slice (some ⟨g, 0, none⟩) M M] 46)) (.cells #[.int .i64 (r : Int)] 3)
    simpa using this
  · exact ((Turn.refl (fun _ => False) (w.alloc (.cells #[.slice (some ⟨g, 0, none⟩) M M] 46))).alloc (.cells #[.int .i64 (r : Int)] 3)).obj (heap_alloc_new _ _) (fun e => e)
  all_goals (first | (simp; done) | (simp; omega))

set_option maxRecDepth 100000 in
set_option maxHeartbeats 4000000 in
theorem beside_it (l B : Nat) {gr gn g r h M : Nat} {L : List (List UInt8)} {N : Nat → List UInt8} (hw : WayUp r h M) (hL : L.length = M) (hL2 : ∀ x ∈ L, x.length = 32) (hLN : ∀ i, 0 < i → i < M → L[i]? = some (N i)) (hN : ∀ i, (N i).length = 32)
    (S : Nat → Prop) (hr : ¬ S gr ∧ gr < B) (hn : ¬ S gn ∧ gn < B) (hg : ¬ S g ∧ g < B) (hne : gn ≠ gr) (hne2 : g ≠ gr) (J : Nat → World → Prop) (W1 : World) (hB : Beside W1 gr gn g r M L) (stab : ∀ j W W', J j W → Turn (fun k => k = gr) W W' → J j W')
    (hround : ∀ j W, j < h → J j W → YieldAt Fence.wide 0 Try.prog l #[hv (N ((r / 2 ^ j) ^^^ 1))] W fun e W' => e = .returned (.bool true) ∧ J (j + 1) W' ∧ Turn (fun k => S k ∨ B ≤ k) W W') (h0 : J 0 W1) :
    CallsIn Fence.wide 0 Try.prog 133 #[.func (.yield l) #[] #[], .pointer (some ⟨gr, 0, none⟩), .pointer (some ⟨gn, 0, none⟩)] W1 fun e W' => (∃ v, e = .returned v) ∧ J h W' := by
  have HST := Lib.hid stab; have HRD := Lib.hid hround; have HW := Lib.hid hw; have HLN := Lib.hid hLN; have HL2 := Lib.hid hL2; have HN := Lib.hid hN
  have HB0 := Lib.hid hB; have HJ0 := Lib.hid h0
  have HL := Lib.hid hL
  clear stab hround hw hLN hL2 hN hB h0 hL
  refine callsIn_of_wp Try.func133 rfl trivial ?_ rfl
  simp only [Try.ntmps133, List.size_toArray, List.length_cons, List.length_nil, Nat.reduceAdd, Nat.reduceSub, Array.replicate_succ, Array.replicate_zero, List.push_toArray, List.append_toArray, List.nil_append, List.cons_append]
  gi_wp2
  gi_loopw [4] (fun _ wr => ∃ j : Nat, j ≤ h ∧ Hid (Beside wr gr gn g (r / 2 ^ j) M L) ∧ Hid (J j wr)) (fun _ wr => match wr.cell? ⟨gr, 0, none⟩ with | some v => (intOf v).toNat | none => 0)
  case atStart => exact ⟨0, Nat.zero_le _, Lib.hid (by rw [Nat.pow_zero, Nat.div_one]; exact HB0.out), HJ0⟩
  case round =>
    obtain ⟨j, hj, HB, HJ⟩ := hrel
    obtain ⟨b1, b2, b3⟩ := HB.out
    have c1 : wr.cell? ⟨gr, 0, none⟩ = some (.int .i64 ((r / 2 ^ j : Nat) : Int)) := by rw [cell_of_row wr gr 0 _ _ _ b1]; rfl
    have c2 : wr.cell? ⟨gn, 0, none⟩ = some (.slice (some ⟨g, 0, none⟩) M M) := by rw [cell_of_row wr gn 0 _ _ _ b2]; rfl
    by_cases hlt : j < h
    · obtain ⟨x, hx, hx0, hxM⟩ := HW.out.next j hlt
      obtain ⟨y1, y2⟩ := HW.out.low j hlt
      have hxi := xor1_int (r := r / 2 ^ j) (by have := HW.out.big; omega)
      rw [← hx] at hxi
      have hy := HRD.out j wr hlt HJ.out
      rw [← hx] at hy
      have R3 := hrowV_at2 (i := x) HL2.out (HLN.out x hx0 hxM) b3
      have hnx := HN.out x
      have HX := Lib.hid hx
      have HDV : Hid (r / 2 ^ j / 2 = r / 2 ^ (j + 1)) := Lib.hid (by rw [Nat.div_div_eq_div_mul, Nat.pow_succ])
      clear b1 b2 b3 hx
      generalize hrj : r / 2 ^ j = rj at *
      have HRJ := Lib.hid hrj
      clear hrj
      generalize hnn : N x = Nx at *
      clear hnn
      have q1 : decide ((1 : Int) < (rj : Int)) = true := decide_eq_true (by omega)
      have q1n : decide (1 < rj) = true := decide_eq_true (by omega)
      have q1p : (1 : Int) < rj := by omega
      have xM : (x : Int) < M := by omega
      have x0 : (0 : Int) ≤ x := by omega
      gi_wp2_with (first | (refine wpListIn_load_mid rfl 62 _ rfl g (x * 32) rfl (u8s Nx) _ R3 Try.underlying62 rfl (info28_l hnx) ?_) | (refine wpListIn_yield rfl _ _ _ rfl l _ rfl rfl _ hy ?_))
      rintro e w2 rfl hJ2 ht2
      refine ⟨_, rfl, ?_⟩
      have HJ2 := Lib.hid hJ2
      have hB2 : Beside w2 gr gn g rj M L := ⟨ht2.obj HB.out.1 (fun hk => hk.elim hr.1 (by omega)), ht2.obj HB.out.2.1 (fun hk => hk.elim hn.1 (by omega)), ht2.obj HB.out.2.2 (fun hk => hk.elim hg.1 (by omega))⟩
      have c1 : w2.cell? ⟨gr, 0, none⟩ = some (.int .i64 (rj : Int)) := by rw [cell_of_row w2 gr 0 _ _ _ hB2.1]; rfl
      have f1 : w2.frozen? ⟨gr, 0, none⟩ = false := frozen_of_row w2 gr 0 _ _ hB2.1
      have HB2 := Lib.hid hB2
      clear hJ2 ht2 hB2 c2 R3 hy hxi xM x0
      have y3 : (rj : Int) ≤ 64 := by have := HW.out.big; omega
      have y4 : wrap64 ((rj : Int) / 2) = (rj : Int) / 2 := by unfold wrap64; omega
      gi_wp2
      have hm := Int.natCast_ediv rj 2
      have e1 : ((rj : Int) / 2) = ((rj / 2 : Nat) : Int) := by omega
      have T1 : Turn (fun k => k = gr) w2 (w2.setCell ⟨gr, 0, none⟩ (.int .i64 ((rj : Int) / 2))) := (Turn.refl (fun k => k = gr) w2).setCell (p := ⟨gr, 0, none⟩) (fun _ => rfl) _
      have e2 : (w2.setCell ⟨gr, 0, none⟩ (.int .i64 ((rj : Int) / 2))).heap[gr]? = some (.cells #[.int .i64 ((r / 2 ^ (j + 1) : Nat) : Int)] 3 (0, 0)) := by
        have := setCells_heap gr [.int .i64 ((rj : Int) / 2)] 0 w2 _ _ _ HB2.out.1 (by simp)
        rw [e1, HDV.out] at this ⊢
        simpa [World.setCells] using this
      refine ⟨⟨j + 1, by omega, Lib.hid ⟨e2, T1.obj HB2.out.2.1 (fun e => hne e), T1.obj HB2.out.2.2 (fun e => hne2 e)⟩, Lib.hid (HST.out _ _ _ HJ2.out T1)⟩, ?_⟩
      have m1 : wr.cell? ⟨gr, 0, none⟩ = some (.int .i64 (rj : Int)) := by rw [cell_of_row wr gr 0 _ _ _ HB.out.1]; rfl
      have m2 : (w2.setCell ⟨gr, 0, none⟩ (.int .i64 ((rj : Int) / 2))).cell? ⟨gr, 0, none⟩ = some (.int .i64 ((r / 2 ^ (j + 1) : Nat) : Int)) := by rw [cell_of_row _ gr 0 _ _ _ e2]; rfl
      rw [m1, m2]
      simp only [intOf, ← HDV.out]
      omega
    · obtain rfl : j = h := by omega
      rw [HW.out.top] at c1
      clear b1 b2 b3
      gi_wp2
      go_end0
      exact ⟨⟨_, rfl⟩, HJ.out⟩
end Go.Proofs.Ytcfbmbhkdicpfaa
