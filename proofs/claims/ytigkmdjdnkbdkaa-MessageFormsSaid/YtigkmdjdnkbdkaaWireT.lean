/- Package wire: texts and hashes written. -/
import Derived.Test.YtigkmdjdnkbdkaaWire
namespace Go.Proofs.Ytigkmdjdnkbdkaa
open Go.RowKit

set_option maxRecDepth 100000 in
set_option maxHeartbeats 400000 in
theorem WText_any (w : World) (g : Nat) (v : Value) (bs t : List UInt8) (s : Int) (h : IsWr 87 w g v bs) (ht0 : t.length ≤ 4611686018427387904) :
    Calls Try.prog 42 #[.pointer (some ⟨g, 0, none⟩), .string (bstr t), .int .i64 s] w fun e w' =>
      e = .returned (.int .i64 (wrText bs t s).1) ∧ Wrote 87 w w' g v (wrText bs t s).2 := by
  have hz := bstr_size t
  by_cases hf : fitsB t.length s = true
  · have hle := beB_le hf
    have e1 : wrText bs t s = wrPut bs (catB [beB t.length s.toNat, t]) := by rw [wrText, if_pos hf]; simp [catB]
    have E1 := Lib.hid e1; clear e1
    have HF := Lib.hid hf; clear hf
    rw [E1.out]
    rw [Int.toNat_natCast] at hle
    go_enter Try.func42, Try.ntmps42
    go_wp2_with fail
    refine (bytes_any _ _ _).mono ?_
    rintro e w1 ⟨rfl, ht⟩
    rw [HF.out]
    simp only [if_true, Int.toNat_natCast]
    go_wp2_with fail
    refine (put_any _ g w1.heap.size v bs [beB t.length s.toNat, t] (h.turn (ht.alloc _) (fun _ _ e => e)) (heap_alloc_new _ _) (by simp; omega) (fun e => by have := h.blk _ e; have := ht.size; omega) (by simp)).mono ?_
    rintro e w2 ⟨rfl, hw⟩
    have HW := Lib.hid hw; clear hw
    go_wp2
    go_ret
    exact ⟨rfl, Wrote.after (ht.alloc _) HW.out⟩
  · have hf' : fitsB t.length s = false := by simpa using hf
    have e1 : wrText bs t s = (301, bs) := by rw [wrText, if_neg hf]
    rw [e1]
    clear e1 hf
    have HF := Lib.hid hf'; clear hf'
    go_enter Try.func42, Try.ntmps42
    go_wp2_with fail
    refine (bytes_any _ _ _).mono ?_
    rintro e w1 ⟨rfl, ht⟩
    rw [HF.out]
    go_wp2
    go_ret
    exact ⟨rfl, Wrote.same h ht⟩

set_option maxRecDepth 100000 in
set_option maxHeartbeats 400000 in
theorem WHash_any (w : World) (g : Nat) (v : Value) (bs t : List UInt8) (h : IsWr 87 w g v bs) (ht0 : t.length = 32) :
    Calls Try.prog 45 #[.pointer (some ⟨g, 0, none⟩), hv t] w fun e w' =>
      e = .returned (.int .i64 (wrPut bs t).1) ∧ Wrote 87 w w' g v (wrPut bs t).2 := by
  have hcv := conv_block (P := Try.prog) (w.alloc (.cells (u8s t).toArray 45)) 48 5 9 45 (0, 0) Try.underlying48 Try.underlying5 Try.underlying9 w.heap.size 32 t 32 ht0 (heap_alloc_new _ _)
  have HT0 := Lib.hid ht0; clear ht0
  go_enter Try.func45, Try.ntmps45
  go_wp2_with fail
  refine (put_any _ g (w.heap.size + 1) v bs [t] (h.turn ((Turn.refl _ _).alloc _ |>.alloc _) (fun _ _ e => e)) (by simpa using heap_alloc_new (w.alloc (.cells (u8s t).toArray 45)) _) (by simp [HT0.out]) (fun e => by have := h.blk _ e; omega) (by simp)).mono ?_
  rintro e w2 ⟨rfl, hw⟩
  have HW := Lib.hid hw; clear hw
  go_wp2
  go_ret
  have e1 : catB [t] = t := by simp [catB]
  rw [e1] at HW
  rw [e1]
  exact ⟨rfl, Wrote.after ((Turn.refl _ _).alloc _ |>.alloc _) HW.out⟩

end Go.Proofs.Ytigkmdjdnkbdkaa
