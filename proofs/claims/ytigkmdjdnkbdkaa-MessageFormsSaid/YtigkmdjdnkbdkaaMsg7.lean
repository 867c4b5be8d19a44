/- Chapters 19 and 22: entries, messages as arguments. -/
import Derived.Test.YtigkmdjdnkbdkaaMsg6
namespace Go.Proofs.Ytigkmdjdnkbdkaa
open Go.RowKit
set_option maxRecDepth 100000

section
variable {H : Type} {enc : TypeId × Value → H} {w : World}
theorem Fit.oneSlice {P : Program} {t e : TypeId} {c : Value} (hu : P.underlying t = some (.slice e)) (h : Fit enc P w t [c]) : (∃ ao n cp, c = .slice ao n cp) ∧ Fit enc P w t c.cells.toList := by
  rcases h.slice hu with h0 | ⟨a, len, cap, hc, _⟩
  · have : c = .slice none 0 0 := by simpa using h0
    subst this
    exact ⟨⟨_, _, _, rfl⟩, h⟩
  · have : c = .slice (some a) len cap := by simpa using hc
    subst this
    exact ⟨⟨_, _, _, rfl⟩, h⟩
theorem cellsInt : Try.prog.cellsOf 3 = 1 := by kernel_rfl
theorem cellsStr : Try.prog.cellsOf 9 = 1 := by kernel_rfl
theorem cellsU8 : Try.prog.cellsOf 5 = 1 := by kernel_rfl
theorem cellsHs : Try.prog.cellsOf 45 = 32 := by kernel_rfl
theorem cellsIs : Try.prog.cellsOf 43 = 1 := by kernel_rfl
theorem cellsHsS : Try.prog.cellsOf 23 = 1 := by kernel_rfl
theorem cellsEn : Try.prog.cellsOf 47 = 37 := by kernel_rfl
theorem open_ints {c : Value} (h : Fit enc Try.prog w 43 [c]) : ∃ xs, Ints w c xs := by
  obtain ⟨hv, h⟩ := h.oneSlice Try.underlying43
  have hby : Try.prog.bytesOf 3 = 8 := by kernel_rfl
  obtain ⟨xs, ⟨ao, cap, e1, e2, e3, e4⟩, hb⟩ := h.row (α := Int) (size := 1) (cells := fun x => [.int .i64 x]) (ok := fun x => -9223372036854775808 ≤ x ∧ x ≤ 9223372036854775807) Try.underlying43 cellsInt (by decide)
    (fun cs hcs => by
      obtain ⟨n, hn, hwf⟩ := hcs.int Try.underlying3
      exact ⟨n, hn, bounds_i64 hwf⟩) hv
  rw [hby] at hb
  refine ⟨xs, ao, cap, e1, e2, by omega, e3, fun j x hx => ?_⟩
  obtain ⟨q1, b, o, q2, q3⟩ := e4 j x hx
  refine ⟨q1.1, q1.2, b, o, q2, ?_⟩
  have := q3 0 (.int .i64 x) rfl
  simpa using this
theorem open_hashL {c : Value} (h : Fit enc Try.prog w 23 [c]) : ∃ xs, Rows u8s 32 w c xs ∧ xs.length ≤ 4398046511104 := by
  obtain ⟨hv, h⟩ := h.oneSlice Try.underlying23
  have hby : Try.prog.bytesOf 45 = 32 := by kernel_rfl
  obtain ⟨xs, hr, hb⟩ := h.row (size := 32) (cells := u8s) (ok := fun x => x.length = 32) Try.underlying23 cellsHs (by omega) (fun cs hc => hc.bytes Try.underlying45 Try.underlying5 cellsU8 cellsHs) hv
  rw [hby] at hb
  exact ⟨xs, Rows.ofIsRow hr fun x hx => by rw [u8s_length, hx], by omega⟩
theorem open_textL {c : Value} (h : Fit enc Try.prog w 24 [c]) : ∃ xs, Rows txtC 1 w c xs ∧ xs.length ≤ 8796093022208 ∧ ∀ t ∈ xs, t.length ≤ 140737488351232 := by
  obtain ⟨hv, h⟩ := h.oneSlice Try.underlying24
  have hby : Try.prog.bytesOf 9 = 16 := by kernel_rfl
  obtain ⟨xs, hr, hb⟩ := h.row (size := 1) (cells := txtC) (ok := fun x => x.length ≤ 140737488351232) Try.underlying24 cellsStr (by omega) (fun cs hc => hc.string Try.underlying9) hv
  rw [hby] at hb
  refine ⟨xs, Rows.ofIsRow hr fun x hx => rfl, by omega, fun t ht => ?_⟩
  obtain ⟨_, _, _, _, _, e4⟩ := hr
  obtain ⟨i, hi, rfl⟩ := List.getElem_of_mem ht
  exact (e4 i xs[i] (by simp [hi])).1
def EntOk (w : World) (E : Ent) : Prop := EntAt w E ∧ E.p.sign.length ≤ 140737488351232 ∧ E.p.tabs.length ≤ 4398046511104
set_option maxHeartbeats 4000000 in
theorem ent_open {cs : List Value} (h : Fit enc Try.prog w 47 cs) : ∃ E : Ent, cs = entC E ∧ EntOk w E := by
  obtain ⟨hl, hf⟩ := h.struct Try.underlying47
  rw [cellsEn] at hl
  match cs, hl with
  | c0 :: c1 :: c2 :: r, hl =>
    obtain ⟨a, ha, _⟩ := (hf 0 _ rfl).int Try.underlying3
    obtain ⟨b, hb, _⟩ := (hf 1 _ rfl).int Try.underlying3
    obtain ⟨l, hl2, hl3⟩ := (hf 3 _ rfl).bytes Try.underlying45 Try.underlying5 cellsU8 cellsHs
    obtain ⟨z, hz, hz2⟩ := (hf 5 _ rfl).string Try.underlying9
    have h2 : Fit enc Try.prog w 43 [c2] := hf 2 _ rfl
    have h4 : Fit enc Try.prog w 23 ((r.drop 32).take 1) := hf 4 _ rfl
    have ha : [c0] = [Value.int .i64 a] := ha
    have hb : [c1] = [Value.int .i64 b] := hb
    have hl2 : r.take 32 = u8s l := hl2
    have hz : (r.drop 33).take 1 = [.string (bstr z)] := hz
    have hrl : r.length = 34 := by simpa using hl
    obtain ⟨vec, hvec⟩ := open_ints h2
    obtain ⟨d, hd⟩ : ∃ d, (r.drop 32).take 1 = [d] := by
      match hx : r.drop 32 with
      | [] => have := congrArg List.length hx; rw [List.length_drop] at this; simp at this; omega
      | d :: t => exact ⟨d, rfl⟩
    rw [hd] at h4
    obtain ⟨tabs, htab, ht2⟩ := open_hashL h4
    have er : r = u8s l ++ [d, .string (bstr z)] := by
      rw [← hl2, show [d, Value.string (bstr z)] = [d] ++ [.string (bstr z)] from rfl, ← hd, ← hz]
      have e1 : (r.drop 33).take 1 = r.drop 33 := List.take_of_length_le (by rw [List.length_drop]; omega)
      rw [e1, show r.drop 33 = (r.drop 32).drop 1 by rw [List.drop_drop], List.take_append_drop, List.take_append_drop]
    refine ⟨⟨⟨a, b, vec, l, tabs, z⟩, c2, d⟩, ?_, ⟨hvec, htab, hl3⟩, hz2, ht2⟩
    rw [er, entC]
    simp at ha hb
    rw [ha, hb]
    rfl
theorem open_entL {c : Value} (h : Fit enc Try.prog w 22 [c]) : ∃ es, EntsAt w c es ∧ ∀ e ∈ es, e.p.tabs.length ≤ 4398046511104 := by
  obtain ⟨hv, h⟩ := h.oneSlice Try.underlying22
  have hby : Try.prog.bytesOf 47 = 112 := by kernel_rfl
  obtain ⟨es, hr, hb⟩ := h.row (size := 37) (cells := entC) (ok := EntOk w) Try.underlying22 cellsEn (by omega) (fun cs hc => ent_open hc) hv
  rw [hby] at hb
  have hok : ∀ e ∈ es, EntOk w e := fun e he => by
    obtain ⟨_, _, _, _, _, e4⟩ := hr
    obtain ⟨i, hi, rfl⟩ := List.getElem_of_mem he
    exact (e4 i es[i] (by simp [hi])).1
  exact ⟨es, ⟨Rows.ofIsRow hr fun x hx => entC_length hx.1.root, fun e he => ⟨(hok e he).1, (hok e he).2.1⟩, by omega⟩, fun e he => (hok e he).2.2⟩
theorem cellsMs : Try.prog.cellsOf 26 = 6 := by kernel_rfl
theorem cellsEnS : Try.prog.cellsOf 22 = 1 := by kernel_rfl
theorem cellsTxS : Try.prog.cellsOf 24 = 1 := by kernel_rfl
/-- A message that is an argument. -/
def MsgOk (w : World) (m : Msg) : Prop := MsgAt w m ∧ ∀ e ∈ m.es, e.p.tabs.length ≤ 4398046511104
theorem msg_open {cs : List Value} (h : Fit enc Try.prog w 26 cs) : ∃ m : Msg, cs = msgC m ∧ MsgOk w m := by
  obtain ⟨hl, hf⟩ := h.struct Try.underlying26
  rw [cellsMs] at hl
  match cs, hl with
  | [c0, c1, c2, c3, c4, c5], _ =>
    obtain ⟨a, ha, _⟩ := (hf 0 _ rfl).int Try.underlying3
    obtain ⟨b, hb, _⟩ := (hf 1 _ rfl).int Try.underlying3
    obtain ⟨c, hc, _⟩ := (hf 2 _ rfl).int Try.underlying3
    have h3 : Fit enc Try.prog w 22 [c3] := hf 3 _ rfl
    have h4 : Fit enc Try.prog w 23 [c4] := hf 4 _ rfl
    have h5 : Fit enc Try.prog w 24 [c5] := hf 5 _ rfl
    have ha : [c0] = [Value.int .i64 a] := ha
    have hb : [c1] = [Value.int .i64 b] := hb
    have hc : [c2] = [Value.int .i64 c] := hc
    obtain ⟨es, he, he2⟩ := open_entL h3
    obtain ⟨ws, hw, hw2⟩ := open_hashL h4
    obtain ⟨os, ho, ho2, ho3⟩ := open_textL h5
    simp at ha hb hc
    exact ⟨⟨⟨a, b, c, es.map (·.p), ws, os⟩, es, c3, c4, c5⟩, by rw [ha, hb, hc]; rfl, ⟨he, rfl, hw, hw2, ho, ho2, ho3⟩, he2⟩
end
theorem open_msg {H : Type} {enc : TypeId × Value → H} {w : World} {W : World} {r : Reach} {base : Nat} {v : Value} (h : Fit enc Try.prog w 26 v.cells.toList) (hv0 : Value.okWide Try.prog W r base 26 v) : ∃ m : Msg, v = .agg (msgC m).toArray ∧ MsgOk w m := by
  obtain ⟨m, hm, h2⟩ := msg_open h
  simp only [Value.okWide, Try.underlying26] at hv0
  obtain ⟨cs, rfl, _, _⟩ := hv0
  refine ⟨m, ?_, h2⟩
  have : cs.toList = msgC m := hm
  rw [← this]
end Go.Proofs.Ytigkmdjdnkbdkaa
