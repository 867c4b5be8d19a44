/- Walks of package wire: readers. -/
import Derived.Test.YtmifchdmlbcclaaWire
namespace Go.Proofs.Ytmifchdmlbcclaa
open Go.RowKit

/-- A reader at g with s left. -/
structure IsRd (T : TypeId) (w : World) (g : Nat) (s : List UInt8) : Prop where
  cell : w.heap[g]? = some (.cells #[.string (bstr s)] T (0, 0))
  len : s.length ≤ 4611686018427387904
theorem IsRd.at {T : TypeId} {w : World} {g : Nat} {s : List UInt8} (h : IsRd T w g s) : w.cell? ⟨g, 0, none⟩ = some (.string (bstr s)) := by simp [World.cell?, h.cell]
theorem IsRd.free {T : TypeId} {w : World} {g : Nat} {s : List UInt8} (h : IsRd T w g s) : w.frozen? ⟨g, 0, none⟩ = false := by simp [World.frozen?, h.cell]
theorem IsRd.lt {T : TypeId} {w : World} {g : Nat} {s : List UInt8} (h : IsRd T w g s) : g < w.heap.size := (Array.getElem?_eq_some_iff.1 h.cell).1
theorem IsRd.turn {T : TypeId} {w w' : World} {g : Nat} {s : List UInt8} {S : Nat → Prop} (h : IsRd T w g s) (ht : Turn S w w') (hn : ¬ S g) : IsRd T w' g s := ⟨ht.obj h.cell hn, h.len⟩
/-- What a reader's call leaves. -/
structure Read (T : TypeId) (w w' : World) (g : Nat) (s : List UInt8) : Prop where
  rd : IsRd T w' g s
  turn : Turn (fun k => k = g) w w'
theorem Read.same {T : TypeId} {w w' : World} {g : Nat} {s : List UInt8} (h : IsRd T w g s) (ht : Pure w w') : Read T w w' g s := ⟨h.turn ht (fun e => e), ht.mono fun _ _ e => e.elim⟩
theorem Read.trans {T : TypeId} {w w1 w2 : World} {g : Nat} {s s' : List UInt8} (h : Read T w w1 g s) (k : Read T w1 w2 g s') : Read T w w2 g s' := ⟨k.rd, h.turn.trans k.turn fun _ _ e => e⟩
theorem Read.set {T : TypeId} {w : World} {g : Nat} {s s' : List UInt8} (h : IsRd T w g s) (hl : s'.length ≤ s.length) : Read T w (w.setCell ⟨g, 0, none⟩ (.string (bstr s'))) g s' :=
  ⟨⟨by simp [World.setCell, Array.getElem?_modify, h.cell], Nat.le_trans hl h.len⟩, (Turn.refl (fun k => k = g) w).setCell (p := ⟨g, 0, none⟩) (fun _ => rfl) _⟩

set_option maxRecDepth 100000 in
set_option maxHeartbeats 400000 in
theorem Open_any (w : World) (s : List UInt8) (hs : s.length ≤ 4611686018427387904) :
    Calls Try.prog 75 #[.string (bstr s)] w fun e w' => e = .returned (.pointer (some ⟨w.heap.size, 0, none⟩)) ∧ IsRd 135 w' w.heap.size s ∧ Pure w w' := by
  go_enter Try.func75, Try.ntmps75
  go_wp2
  go_ret
  exact ⟨rfl, ⟨heap_alloc_new w _, hs⟩, (Turn.refl _ _).alloc _⟩

/-- Cutting bytes off. -/
def rdCut (s : List UInt8) (n : Nat) : List UInt8 × Bool × List UInt8 := if n ≤ s.length then (s.take n, true, s.drop n) else ([], false, s)

set_option maxRecDepth 100000 in
set_option maxHeartbeats 400000 in
theorem cut_any (w : World) (g : Nat) (s : List UInt8) (n : Nat) (h : IsRd 135 w g s) :
    Calls Try.prog 84 #[.pointer (some ⟨g, 0, none⟩), .int .i64 n] w fun e w' =>
      e = .returned (.tuple #[.string (bstr (rdCut s n).1), .bool (rdCut s n).2.1]) ∧ Read 135 w w' g (rdCut s n).2.2 := by
  have h1 := h.at
  have h2 := h.free
  have hz := bstr_size s
  have hl := h.len
  by_cases hc : n ≤ s.length
  · have e1 : rdCut s n = (s.take n, true, s.drop n) := by rw [rdCut, if_pos hc]
    rw [e1]
    clear e1
    have ex1 : (bstr s).extract 0 n = bstr (s.take n) := by rw [bstr_ext]; simp
    have ex2 : (bstr s).extract n s.length = bstr (s.drop n) := by rw [bstr_ext]; simp
    have EX1 := Lib.hid ex1; clear ex1
    have EX2 := Lib.hid ex2; clear ex2
    go_enter Try.func84, Try.ntmps84
    go_wp2
    rw [EX1.out, EX2.out]
    go_ret2
    exact ⟨rfl, Read.set h (by simp)⟩
  · have e1 : rdCut s n = ([], false, s) := by rw [rdCut, if_neg hc]
    rw [e1]
    clear e1
    go_enter Try.func84, Try.ntmps84
    go_wp2
    go_ret2
    exact ⟨rfl, Read.same h (Turn.refl _ _)⟩

/-- The number of bytes, the highest first. -/
def numB : List UInt8 → Nat := List.foldl (fun x b => x * 256 + b.toNat) 0
theorem numB_snoc (l : List UInt8) (b : UInt8) : numB (l ++ [b]) = numB l * 256 + b.toNat := by simp [numB]
theorem numB_lt_gen : ∀ (l : List UInt8) (x : Nat), l.foldl (fun x b => x * 256 + b.toNat) x < (x + 1) * 256 ^ l.length
  | [], x => by simp
  | b :: l, x => by
    have h := numB_lt_gen l (x * 256 + b.toNat)
    have hb := b.toNat_lt
    refine Nat.lt_of_lt_of_le h ?_
    rw [List.length_cons, Nat.pow_succ, Nat.mul_comm (256 ^ l.length) 256, ← Nat.mul_assoc]
    exact Nat.mul_le_mul_right _ (by omega)
theorem numB_lt (l : List UInt8) : numB l < 256 ^ l.length := by simpa [numB] using numB_lt_gen l 0

/-- Reading a number. -/
def rdNum (s : List UInt8) (n : Int) : Int × Int × List UInt8 :=
  if sizedB n then (if n.toNat ≤ s.length then ((numB (s.take n.toNat) : Int), 0, s.drop n.toNat) else (0, 300, s)) else (0, 301, s)

set_option maxRecDepth 100000 in
set_option maxHeartbeats 400000 in
theorem RNum_any (w : World) (g : Nat) (s : List UInt8) (n : Int) (h : IsRd 135 w g s) :
    Calls Try.prog 76 #[.pointer (some ⟨g, 0, none⟩), .int .i64 n] w fun e w' =>
      e = .returned (.tuple #[.int .i64 (rdNum s n).1, .int .i64 (rdNum s n).2.1]) ∧ Read 135 w w' g (rdNum s n).2.2 := by
  by_cases hs : sizedB n = true
  · obtain ⟨m, rfl, hm0⟩ := sized_nat hs
    have hm : m ≤ 4 := by omega
    have HM0 := Lib.hid hm0; clear hm0
    by_cases hc : m ≤ s.length
    · have e1 : rdNum s m = ((numB (s.take m) : Int), 0, s.drop m) := by rw [rdNum, if_pos hs]; simp [hc]
      have e2 : rdCut s m = (s.take m, true, s.drop m) := by rw [rdCut, if_pos hc]
      have E1 := Lib.hid e1; clear e1
      have E2 := Lib.hid e2; clear e2
      have HS := Lib.hid hs; clear hs
      rw [E1.out]
      go_enter Try.func76, Try.ntmps76
      go_wp2_with fail
      refine (sized_any _ _).mono ?_
      rintro e w1 ⟨rfl, rfl⟩
      rw [HS.out]
      go_wp2_with fail
      refine (cut_any _ _ _ _ h).mono ?_
      rintro e w1 ⟨rfl, hr⟩
      rw [E2.out] at hr ⊢
      have HR := Lib.hid hr; clear hr
      have hz := bstr_size (s.take m)
      have hlt : (s.take m).length = m := by simp; omega
      rw [hlt] at hz
      generalize htt : s.take m = t at hz hlt ⊢
      have HTT := Lib.hid htt; clear htt
      go_wp2
      go_loop [8, 9, 27] (fun x _ i => ∃ k : Nat, k ≤ m ∧ i = .int .i64 k ∧ x = .int .i64 (numB (t.take k) : Nat)) (fun _ _ i => m - (intOf i).toNat)
      case atStart => exact ⟨0, by omega, rfl, by simp [numB]⟩
      case round =>
        obtain ⟨k, hk, rfl, rfl⟩ := hrel
        by_cases hlk : k < m
        · have hx := numB_lt (t.take k)
          have hp : 256 ^ (t.take k).length ≤ 256 ^ 3 := Nat.pow_le_pow_right (by omega) (by simp; omega)
          have hx2 : numB (t.take k) < 16777216 := by omega
          clear hx hp
          generalize hX : numB (t.take k) = X at hx2
          have HX := Lib.hid hX; clear hX
          have hsn : numB (t.take (k + 1)) = X * 256 + (t.getD k 0).toNat := by
            rw [List.take_add_one, show t[k]? = some (t.getD k 0) from by simp [List.getD, show k < t.length by omega], Option.toList_some, numB_snoc, HX.out]
          have HSN := Lib.hid hsn; clear hsn
          go_wp2
          refine ⟨⟨k + 1, by omega, by go_num, ?_⟩, by simp [intOf]; omega⟩
          have hb := (t.getD k 0).toNat_lt
          rw [bstr_get, wrap_byte, or8 X _ (by omega) (by omega) (by omega), HSN.out]
          go_num
        · obtain rfl : k = m := by omega
          have ht : t.take k = t := List.take_of_length_le (by omega)
          rw [ht]
          go_wp2
          go_ret2
          exact ⟨by rw [HTT.out]; rfl, HR.out⟩
    · have e1 : rdNum s m = (0, 300, s) := by rw [rdNum, if_pos hs]; simp [hc]
      have e2 : rdCut s m = ([], false, s) := by rw [rdCut, if_neg hc]
      have E1 := Lib.hid e1; clear e1
      have E2 := Lib.hid e2; clear e2
      have HS := Lib.hid hs; clear hs
      rw [E1.out]
      go_enter Try.func76, Try.ntmps76
      go_wp2_with fail
      refine (sized_any _ _).mono ?_
      rintro e w1 ⟨rfl, rfl⟩
      rw [HS.out]
      go_wp2_with fail
      refine (cut_any _ _ _ _ h).mono ?_
      rintro e w1 ⟨rfl, hr⟩
      rw [E2.out] at hr ⊢
      have HR := Lib.hid hr; clear hr
      go_wp2
      go_ret2
      exact ⟨rfl, HR.out⟩
  · have hs' : sizedB n = false := by simpa using hs
    have e1 : rdNum s n = (0, 301, s) := by rw [rdNum, if_neg hs]
    rw [e1]
    clear e1 hs
    have HS := Lib.hid hs'; clear hs'
    go_enter Try.func76, Try.ntmps76
    go_wp2_with fail
    refine (sized_any _ _).mono ?_
    rintro e w1 ⟨rfl, rfl⟩
    rw [HS.out]
    go_wp2
    go_ret2
    exact ⟨rfl, Read.same h (Turn.refl _ _)⟩

end Go.Proofs.Ytmifchdmlbcclaa
