/- The law's acts, as they lie in memory. -/
import Derived.Test.YtjingpkgappblaaFit
import Derived.Test.YtjingpkgappblaaRows
namespace Go.Proofs.Ytjingpkgappblaa
open Go.RowKit

structure ActV where
  K : Int
  X : Int
  S : Int
  T : List UInt8
  H : List UInt8
def ActV.cells (a : ActV) : List Value := .int .i64 a.K :: .int .i64 a.X :: .int .i64 a.S :: .string (bstr a.T) :: u8s a.H
structure ActV.Ok (a : ActV) : Prop where
  hash : a.H.length = 32
  text : a.T.length ≤ 140737488351232
  k : -9223372036854775808 ≤ a.K ∧ a.K ≤ 9223372036854775807
  x : -9223372036854775808 ≤ a.X ∧ a.X ≤ 9223372036854775807
  s : -9223372036854775808 ≤ a.S ∧ a.S ≤ 9223372036854775807
theorem ActV.len {a : ActV} (h : a.Ok) : a.cells.length = 36 := by simp [ActV.cells, u8s_length, h.hash]
theorem ActV.one (a : ActV) : ∀ u ∈ a.cells, u.oneCell' = true := by
  intro u hu
  simp only [ActV.cells, List.mem_cons] at hu
  rcases hu with rfl | rfl | rfl | rfl | hu
  · rfl
  · rfl
  · rfl
  · rfl
  · exact u8s_one _ u hu

theorem Try.cellsInt : Try.prog.cellsOf 3 = 1 := by kernel_rfl
theorem Try.cellsStr : Try.prog.cellsOf 9 = 1 := by kernel_rfl
theorem Try.cellsU8 : Try.prog.cellsOf 5 = 1 := by kernel_rfl
theorem Try.cellsHash : Try.prog.cellsOf 56 = 32 := by kernel_rfl
theorem Try.cellsAct : Try.prog.cellsOf 58 = 36 := by kernel_rfl

theorem act_open {H : Type} {enc : TypeId × Value → H} {w : World} {cs : List Value} (h : Fit enc Try.prog w 58 cs) : ∃ a : ActV, cs = a.cells ∧ a.Ok := by
  obtain ⟨hl, hf⟩ := h.struct Try.underlying58
  rw [Try.cellsAct] at hl
  match cs, hl with
  | c0 :: c1 :: c2 :: c3 :: r, hl =>
    obtain ⟨k, hk, wk⟩ := (hf 0 _ rfl).int Try.underlying3
    obtain ⟨x, hx, wx⟩ := (hf 1 _ rfl).int Try.underlying3
    obtain ⟨s, hs, ws⟩ := (hf 2 _ rfl).int Try.underlying3
    obtain ⟨t, ht, wt⟩ := (hf 3 _ rfl).string Try.underlying9
    obtain ⟨l, hl2, hl3⟩ := (hf 4 _ rfl).bytes Try.underlying56 Try.underlying5 Try.cellsU8 Try.cellsHash
    simp [Try.cellsInt] at hk hx hs
    simp [Try.cellsStr] at ht
    simp [Try.cellsHash] at hl2
    simp at hl
    rw [List.take_of_length_le (by omega)] at hl2
    exact ⟨⟨k, x, s, t, l⟩, by simp [ActV.cells, hk, hx, hs, ht, hl2], hl3, wt, bounds_i64 wk, bounds_i64 wx, bounds_i64 ws⟩

/-- A row of acts that came in. -/
abbrev IsActs (w : World) (v : Value) (xs : List ActV) : Prop := IsRow w 36 ActV.cells ActV.Ok v xs
theorem acts_open {H : Type} {enc : TypeId × Value → H} {w : World} {v : Value} (h : Fit enc Try.prog w 51 v.cells.toList) (hv : ∃ ao n c, v = .slice ao n c) : ∃ xs, IsActs w v xs ∧ xs.length ≤ 140737488351232 := by
  obtain ⟨xs, h1, h2⟩ := h.row Try.underlying51 Try.cellsAct (by omega) (fun cs hc => act_open hc) hv
  have hb : Try.prog.bytesOf 58 = 72 := by kernel_rfl
  exact ⟨xs, h1, by rw [hb] at h2; omega⟩
end Go.Proofs.Ytjingpkgappblaa
