/- A writer that was made here, and one block that is none of its own. -/
import Derived.Test.YtigkmdjdnkbdkaaOwnT
namespace Go.Proofs.Ytigkmdjdnkbdkaa
open Go.RowKit

/-- A writer that was made behind w0; block K is none of its own. -/
def OwnK (T : TypeId) (w0 w : World) (g : Nat) (bs : List UInt8) (K : Nat) : Prop := ∃ v, IsWr T w g v bs ∧ (∀ k, WrB g v k → w0.heap.size ≤ k ∧ k ≠ K) ∧ Pure w0 w
theorem OwnW.keep {T : TypeId} {w0 w w' : World} {g K : Nat} {bs : List UInt8} (h : OwnW T w0 w g bs) (ht : Pure w w') (hK : w.heap.size ≤ K) : OwnK T w0 w' g bs K := by
  obtain ⟨v, h1, h2, h3⟩ := h
  exact ⟨v, h1.turn ht (fun _ _ e => e), fun k hk => ⟨h2 k hk, by have := h1.blk k hk; omega⟩, h3.pure ht⟩
theorem OwnK.own {T : TypeId} {w0 w : World} {g K : Nat} {bs : List UInt8} (h : OwnK T w0 w g bs K) : OwnW T w0 w g bs := by
  obtain ⟨v, h1, h2, h3⟩ := h
  exact ⟨v, h1, fun k hk => (h2 k hk).1, h3⟩
theorem OwnK.wrote {T : TypeId} {w0 w w' : World} {g K : Nat} {v : Value} {bs : List UInt8} (h2 : ∀ k, WrB g v k → w0.heap.size ≤ k ∧ k ≠ K) (h3 : Pure w0 w) (hK : K < w.heap.size) (hw : Wrote T w w' g v bs) : OwnK T w0 w' g bs K ∧ ∀ ob, w.heap[K]? = some ob → w'.heap[K]? = some ob := by
  obtain ⟨⟨v', h1, hb⟩, ht⟩ := hw
  refine ⟨⟨v', h1, ?_, h3.trans ht fun i hi e => by have := (h2 i e).1; omega⟩, fun ob ho => ht.obj ho fun e => (h2 K e).2 rfl⟩
  rintro k (rfl | e)
  · exact h2 k (.inl rfl)
  · rcases hb with f | f
    · exact h2 k (.inr (by rw [← f]; exact e))
    · have := f k e
      exact ⟨Nat.le_trans h3.size this, by omega⟩
theorem WNum_k {w0 w : World} {g K : Nat} {bs : List UInt8} (x s : Int) (h : OwnK 87 w0 w g bs K) (hK : K < w.heap.size) :
    Calls Try.prog 39 #[.pointer (some ⟨g, 0, none⟩), .int .i64 x, .int .i64 s] w fun e w' =>
      e = .returned (.int .i64 (wrNum bs x s).1) ∧ OwnK 87 w0 w' g (wrNum bs x s).2 K ∧ ∀ ob, w.heap[K]? = some ob → w'.heap[K]? = some ob := by
  obtain ⟨v, h1, h2, h3⟩ := h
  exact (WNum_any w g v bs x s h1).mono fun e w' ⟨he, hw⟩ => ⟨he, OwnK.wrote h2 h3 hK hw⟩
theorem WHash_k {w0 w : World} {g K : Nat} {bs : List UInt8} (t : List UInt8) (h : OwnK 87 w0 w g bs K) (ht : t.length = 32) (hK : K < w.heap.size) :
    Calls Try.prog 45 #[.pointer (some ⟨g, 0, none⟩), hv t] w fun e w' =>
      e = .returned (.int .i64 (wrPut bs t).1) ∧ OwnK 87 w0 w' g (wrPut bs t).2 K ∧ ∀ ob, w.heap[K]? = some ob → w'.heap[K]? = some ob := by
  obtain ⟨v, h1, h2, h3⟩ := h
  exact (WHash_any w g v bs t h1 ht).mono fun e w' ⟨he, hw⟩ => ⟨he, OwnK.wrote h2 h3 hK hw⟩
end Go.Proofs.Ytigkmdjdnkbdkaa
