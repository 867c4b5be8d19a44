/- Writers and readers that a call has made itself. -/
import Derived.Test.YtmifchdmlbcclaaWireR
namespace Go.Proofs.Ytmifchdmlbcclaa
open Go.RowKit

/-- A writer that was made behind w0, all that was there unturned. -/
def OwnW (T : TypeId) (w0 w : World) (g : Nat) (bs : List UInt8) : Prop := ∃ v, IsWr T w g v bs ∧ (∀ k, WrB g v k → w0.heap.size ≤ k) ∧ Pure w0 w
theorem OwnW.pure {T : TypeId} {w0 w : World} {g : Nat} {bs : List UInt8} (h : OwnW T w0 w g bs) : Pure w0 w := by obtain ⟨_, _, _, h⟩ := h; exact h
theorem OwnW.next {T : TypeId} {w0 w w' : World} {g : Nat} {bs : List UInt8} (h : OwnW T w0 w g bs) (ht : Pure w w') : OwnW T w0 w' g bs := by
  obtain ⟨v, h1, h2, h3⟩ := h
  exact ⟨v, h1.turn ht (fun _ _ e => e), h2, h3.pure ht⟩
theorem OwnW.wrote {T : TypeId} {w0 w w' : World} {g : Nat} {v : Value} {bs : List UInt8} (h2 : ∀ k, WrB g v k → w0.heap.size ≤ k) (h3 : Pure w0 w) (hw : Wrote T w w' g v bs) : OwnW T w0 w' g bs := by
  obtain ⟨⟨v', h1, hb⟩, ht⟩ := hw
  refine ⟨v', h1, ?_, h3.trans ht fun i hi e => by have := h2 i e; omega⟩
  rintro k (rfl | e)
  · exact h2 k (.inl rfl)
  · rcases hb with f | f
    · exact h2 k (.inr (by rw [← f]; exact e))
    · exact Nat.le_trans h3.size (f k e)
theorem New_own {w0 w : World} (h : Pure w0 w) :
    Calls Try.prog 71 #[] w fun e w' => e = .returned (.pointer (some ⟨w.heap.size, 0, none⟩)) ∧ OwnW 130 w0 w' w.heap.size [] := by
  refine (WNew_any w).mono ?_
  rintro e w' ⟨rfl, h1, h2⟩
  refine ⟨rfl, _, h1, ?_, h.pure h2⟩
  rintro k (rfl | e)
  · exact h.size
  · simp [Value.ownBlock] at e
theorem WNum_own {w0 w : World} {g : Nat} {bs : List UInt8} (x s : Int) (h : OwnW 130 w0 w g bs) :
    Calls Try.prog 72 #[.pointer (some ⟨g, 0, none⟩), .int .i64 x, .int .i64 s] w fun e w' =>
      e = .returned (.int .i64 (wrNum bs x s).1) ∧ OwnW 130 w0 w' g (wrNum bs x s).2 := by
  obtain ⟨v, h1, h2, h3⟩ := h
  exact (WNum_any w g v bs x s h1).mono fun e w' ⟨he, hw⟩ => ⟨he, OwnW.wrote h2 h3 hw⟩
theorem WAll_own {w0 w : World} {g : Nat} {bs : List UInt8} (h : OwnW 130 w0 w g bs) :
    Calls Try.prog 73 #[.pointer (some ⟨g, 0, none⟩)] w fun e w' => e = .returned (.string (bstr bs)) ∧ w = w' := by
  obtain ⟨v, h1, _, _⟩ := h
  exact WAll_any w g v bs h1

/-- A reader that was made behind w0. -/
structure OwnR (w0 w : World) (g : Nat) (s : List UInt8) : Prop where
  rd : IsRd 135 w g s
  new : w0.heap.size ≤ g
  pure : Pure w0 w
theorem OwnR.next {w0 w w' : World} {g : Nat} {s : List UInt8} (h : OwnR w0 w g s) (ht : Pure w w') : OwnR w0 w' g s := ⟨h.rd.turn ht (fun e => e), h.new, h.pure.pure ht⟩
theorem OwnR.read {w0 w w' : World} {g : Nat} {s s' : List UInt8} (h : OwnR w0 w g s) (hr : Read 135 w w' g s') : OwnR w0 w' g s' :=
  ⟨hr.rd, h.new, h.pure.trans hr.turn fun i hi e => by have := h.new; omega⟩
theorem Open_own {w0 w : World} (s : List UInt8) (h : Pure w0 w) (hs : s.length ≤ 4611686018427387904) :
    Calls Try.prog 75 #[.string (bstr s)] w fun e w' => e = .returned (.pointer (some ⟨w.heap.size, 0, none⟩)) ∧ OwnR w0 w' w.heap.size s :=
  (Open_any w s hs).mono fun _ _ ⟨he, h1, h2⟩ => ⟨he, h1, h.size, h.pure h2⟩
theorem RNum_own {w0 w : World} {g : Nat} {s : List UInt8} (n : Int) (h : OwnR w0 w g s) :
    Calls Try.prog 76 #[.pointer (some ⟨g, 0, none⟩), .int .i64 n] w fun e w' =>
      e = .returned (.tuple #[.int .i64 (rdNum s n).1, .int .i64 (rdNum s n).2.1]) ∧ OwnR w0 w' g (rdNum s n).2.2 :=
  (RNum_any w g s n h.rd).mono fun _ _ ⟨he, hr⟩ => ⟨he, h.read hr⟩
theorem Num_any (x : Int) (w : World) : Calls Try.prog 17 #[.int .i64 x] w fun e w' => e = .returned (.int .i64 x) ∧ w = w' := by
  go_enter Try.func17, Try.ntmps17
  go_wp2
  go_ret
  exact ⟨rfl, rfl⟩
end Go.Proofs.Ytmifchdmlbcclaa
