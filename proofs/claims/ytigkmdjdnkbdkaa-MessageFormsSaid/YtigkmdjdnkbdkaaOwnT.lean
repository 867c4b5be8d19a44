/- Texts and hashes of writers and readers that a call has made itself. -/
import Derived.Test.YtigkmdjdnkbdkaaWire
import Derived.Test.YtigkmdjdnkbdkaaWireT
import Derived.Test.YtigkmdjdnkbdkaaWireRT
namespace Go.Proofs.Ytigkmdjdnkbdkaa
open Go.RowKit

theorem WText_own {w0 w : World} {g : Nat} {bs : List UInt8} (t : List UInt8) (s : Int) (h : OwnW 87 w0 w g bs) (ht : t.length ≤ 4611686018427387904) :
    Calls Try.prog 42 #[.pointer (some ⟨g, 0, none⟩), .string (bstr t), .int .i64 s] w fun e w' =>
      e = .returned (.int .i64 (wrText bs t s).1) ∧ OwnW 87 w0 w' g (wrText bs t s).2 := by
  obtain ⟨v, h1, h2, h3⟩ := h
  exact (WText_any w g v bs t s h1 ht).mono fun e w' ⟨he, hw⟩ => ⟨he, OwnW.wrote h2 h3 hw⟩
theorem WHash_own {w0 w : World} {g : Nat} {bs : List UInt8} (t : List UInt8) (h : OwnW 87 w0 w g bs) (ht : t.length = 32) :
    Calls Try.prog 45 #[.pointer (some ⟨g, 0, none⟩), hv t] w fun e w' =>
      e = .returned (.int .i64 (wrPut bs t).1) ∧ OwnW 87 w0 w' g (wrPut bs t).2 := by
  obtain ⟨v, h1, h2, h3⟩ := h
  exact (WHash_any w g v bs t h1 ht).mono fun e w' ⟨he, hw⟩ => ⟨he, OwnW.wrote h2 h3 hw⟩
theorem RText_own {w0 w : World} {g : Nat} {s : List UInt8} (n : Int) (h : OwnR w0 w g s) :
    Calls Try.prog 25 #[.pointer (some ⟨g, 0, none⟩), .int .i64 n] w fun e w' =>
      e = .returned (.tuple #[.string (bstr (rdText s n).1), .int .i64 (rdText s n).2.1]) ∧ OwnR w0 w' g (rdText s n).2.2 :=
  (RText_any w g s n h.rd).mono fun _ _ ⟨he, hr⟩ => ⟨he, h.read hr⟩
theorem RHash_own {w0 w : World} {g : Nat} {s : List UInt8} (h : OwnR w0 w g s) :
    Calls Try.prog 28 #[.pointer (some ⟨g, 0, none⟩)] w fun e w' =>
      e = .returned (.tuple #[hv (rdHash s).1, .int .i64 (rdHash s).2.1]) ∧ OwnR w0 w' g (rdHash s).2.2 :=
  (RHash_any w g s h.rd).mono fun _ _ ⟨he, hr⟩ => ⟨he, h.read hr⟩
end Go.Proofs.Ytigkmdjdnkbdkaa
