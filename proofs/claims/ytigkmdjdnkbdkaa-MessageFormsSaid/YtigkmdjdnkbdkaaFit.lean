/- What an argument that can be read holds, level by level: its cells, its numbers' bounds, its texts' lengths. -/
import Derived.Test.YtigkmdjdnkbdkaaBase
import Derived.OpenShut
import Derived.ProofKit
import Derived.SizedLaws
namespace Go.Proofs.Ytigkmdjdnkbdkaa
open Go.RowKit

/-- Cells that can be read as a value of type t, no text or row in it longer than an argument may be. -/
def Fit {H : Type} (enc : TypeId × Value → H) (P : Program) (w : World) (t : TypeId) (cs : List Value) : Prop :=
  ∃ fuel d ps, DataW.trod enc P w 0 (fun _ => true) true fuel t cs = some (d, ps) ∧ ∀ k ∈ d.weights P t, k ≤ reachBytes

section
variable {H : Type} {enc : TypeId × Value → H} {P : Program} {w : World} {t : TypeId} {cs : List Value}

theorem weightsAll_mem {e : TypeId} : ∀ {ds : List (DataW H)} {d : DataW H}, d ∈ ds → ∀ n ∈ d.weights P e, n ∈ DataW.weightsAll P e ds
  | d0 :: ds, d, hd, n, hn => by
    simp only [DataW.weightsAll, List.mem_append]
    rcases List.mem_cons.1 hd with rfl | h
    · exact .inl hn
    · exact .inr (weightsAll_mem h n hn)

theorem Fit.top {ts : List TypeId} {ds : List (DataW H)} (hsz : (DataW.weightsEach P ts ds).all (· ≤ reachBytes) = true) {j : Nat} {v : Value} {d : DataW H} {ps : List MemPlace} (ht : ts[j]? = some t) (hd : ds[j]? = some d)
    (h : DataW.Trod enc P w 0 (fun _ => true) true t v d ps) : Fit enc P w t v.cells.toList := by
  obtain ⟨fuel, hf⟩ := h
  refine ⟨fuel, d, ps, hf, fun k hk => ?_⟩
  have := List.all_eq_true.1 hsz k (DataW.weights_mem_each ht hd k hk)
  simpa using this

theorem Fit.int {k : IntKind} (hu : P.underlying t = some (.int k)) (h : Fit enc P w t cs) : ∃ n, cs = [.int k n] ∧ (Lit.int k n).wf = true := by
  obtain ⟨fuel, d, ps, h, _⟩ := h
  cases fuel with
  | zero => simp [DataW.trod] at h
  | succ n =>
    unfold DataW.trod at h
    rw [hu] at h
    split at h <;> simp_all

theorem Fit.bool (hu : P.underlying t = some .bool) (h : Fit enc P w t cs) : ∃ b, cs = [.bool b] := by
  obtain ⟨fuel, d, ps, h, _⟩ := h
  cases fuel with
  | zero => simp [DataW.trod] at h
  | succ n =>
    unfold DataW.trod at h
    rw [hu] at h
    split at h <;> simp_all

theorem Fit.string (hu : P.underlying t = some .string) (h : Fit enc P w t cs) : ∃ l, cs = [.string (bstr l)] ∧ l.length ≤ 140737488351232 := by
  obtain ⟨fuel, d, ps, h, hw⟩ := h
  cases fuel with
  | zero => simp [DataW.trod] at h
  | succ n =>
    unfold DataW.trod at h
    rw [hu] at h
    split at h <;> simp_all
    rename_i s
    obtain ⟨_, rfl, _⟩ := h
    refine ⟨s.data.toList, by rw [bstr_eta], ?_⟩
    have := hw s.data.toList.length (by simp [DataW.weights])
    simpa [reachBytes] using this

theorem Fit.struct {fs : Array Field} (hu : P.underlying t = some (.struct fs)) (h : Fit enc P w t cs) :
    cs.length = P.cellsOf t ∧ ∀ (i : Nat) (f : Field), fs[i]? = some f → Fit enc P w f.type ((cs.drop f.offset).take (P.cellsOf f.type)) := by
  obtain ⟨fuel, d, ps, h, hw⟩ := h
  obtain ⟨xs, n, _, hx, hl, hlen, hf⟩ := DataW.trod_struct hu h
  refine ⟨hl, fun i f hi => ?_⟩
  have hb : i < xs.length := by rw [hlen]; exact (Array.getElem?_eq_some_iff.1 hi).1
  have hg := hf i f hi
  rw [List.getElem?_eq_getElem hb] at hg
  refine ⟨n, xs[i].1, xs[i].2, hg, fun k hk => hw k ?_⟩
  obtain ⟨rfl, _⟩ := Prod.mk.inj hx
  simp only [DataW.weights, hu]
  exact DataW.weights_mem_each (j := i) (t := f.type) (d := xs[i].1) (by simp [hi]) (by simp [hb]) k hk

theorem Fit.array {n : Nat} {e : TypeId} (hu : P.underlying t = some (.array n e)) (h : Fit enc P w t cs) :
    cs.length = P.cellsOf t ∧ ∀ i, i < n → Fit enc P w e ((cs.drop (i * P.cellsOf e)).take (P.cellsOf e)) := by
  obtain ⟨fuel, d, ps, h, hw⟩ := h
  obtain ⟨xs, m, _, hx, hl, hlen, hf⟩ := DataW.trod_array hu h
  refine ⟨hl, fun i hi => ?_⟩
  have hb : i < xs.length := by omega
  have hg := hf i hi
  rw [List.getElem?_eq_getElem hb] at hg
  refine ⟨m, xs[i].1, xs[i].2, hg, fun k hk => hw k ?_⟩
  obtain ⟨rfl, _⟩ := Prod.mk.inj hx
  simp only [DataW.weights, hu]
  exact weightsAll_mem (d := xs[i].1) (List.mem_map_of_mem (List.getElem_mem hb)) k hk

/-- A row's elements: each at its place, each readable. -/
theorem Fit.slice {e : TypeId} (hu : P.underlying t = some (.slice e)) (h : Fit enc P w t cs) :
    cs = [.slice none 0 0] ∨ ∃ (a : Addr) (len cap : Nat), cs = [.slice (some a) len cap] ∧ len ≤ cap ∧ cap ≤ maxLen ∧ len * P.bytesOf e ≤ 140737488351232 ∧
      ∀ i, i < len → ∃ cs', w.cells? 0 (a.add (i * P.cellsOf e)) (P.cellsOf e) = some cs' ∧ Fit enc P w e cs' := by
  obtain ⟨fuel, d, ps, h, hw⟩ := h
  rcases DataW.trod_slice hu h with ⟨hc, _⟩ | ⟨a, len, cap, elems, rest, n, _, hc, hx, _, hle, hm, hlen, hel, _, _⟩
  · exact .inl hc
  · obtain ⟨rfl, _⟩ := Prod.mk.inj hx
    simp only [DataW.weights, hu] at hw
    refine .inr ⟨a, len, cap, hc, hle, hm, ?_, fun i hi => ?_⟩
    · have := hw _ (List.mem_cons_self ..)
      simp only [List.length_map, hlen] at this
      have h2 : len * P.bytesOf e ≤ (len + rest.length) * P.bytesOf e := Nat.mul_le_mul_right _ (by omega)
      have h3 : reachBytes = 140737488351232 := rfl
      omega
    · have hb : i < elems.length := by omega
      have hg := hel i hi
      rw [List.getElem?_eq_getElem hb] at hg
      cases hq : w.cells? 0 (a.add (i * P.cellsOf e)) (P.cellsOf e) with
      | none => rw [hq] at hg; simp at hg
      | some cs' =>
        rw [hq] at hg
        refine ⟨cs', rfl, n, elems[i].1, elems[i].2, hg, fun k hk => hw k ?_⟩
        refine List.mem_cons_of_mem _ (List.mem_append_left _ ?_)
        exact weightsAll_mem (d := elems[i].1) (List.mem_map_of_mem (List.getElem_mem hb)) k hk

theorem choose_list {α : Type} {n : Nat} {p : Nat → α → Prop} (h : ∀ i, i < n → ∃ a, p i a) : ∃ xs : List α, xs.length = n ∧ ∀ i a, xs[i]? = some a → p i a := by
  induction n with
  | zero => exact ⟨[], rfl, fun i a ha => by simp at ha⟩
  | succ n ih =>
    obtain ⟨xs, hl, hx⟩ := ih fun i hi => h i (by omega)
    obtain ⟨a, ha⟩ := h n (by omega)
    refine ⟨xs ++ [a], by simp [hl], fun i b hb => ?_⟩
    by_cases hi : i < n
    · rw [List.getElem?_append_left (by omega)] at hb
      exact hx i b hb
    · have : i < n + 1 := by
        have := (List.getElem?_eq_some_iff.1 hb).1
        simpa [hl] using this
      obtain rfl : i = n := by omega
      rw [List.getElem?_append_right (by omega), hl] at hb
      simp at hb
      subst hb
      exact ha

/-- Cells one by one. -/
theorem cells_range {b o n : Nat} (h : w.cells? 0 ⟨b, o, none⟩ n = some cs) : w.rangeAt b o cs ∧ cs.length = n := by
  obtain ⟨_, hl, hc⟩ := World.cells?_some h
  refine ⟨fun j v hv => ?_, hl⟩
  have hj : j < n := by rw [← hl]; exact (List.getElem?_eq_some_iff.1 hv).1
  have := hc j hj
  rw [Addr.add_mid] at this
  rw [this, hv]

/-- A row that came in: the value, its elements' cells each at its place. -/
def IsRow {α : Type} (w : World) (size : Nat) (cells : α → List Value) (ok : α → Prop) (v : Value) (xs : List α) : Prop :=
  ∃ ao cap, v = .slice ao xs.length cap ∧ xs.length ≤ cap ∧ (ao = none → cap = 0) ∧ ∀ i a, xs[i]? = some a → ok a ∧ ∃ b o, ao = some ⟨b, o, none⟩ ∧ w.rangeAt b (o + i * size) (cells a)

theorem Fit.row {α : Type} {e : TypeId} {v : Value} {size : Nat} {cells : α → List Value} {ok : α → Prop} (hu : P.underlying t = some (.slice e)) (hs : P.cellsOf e = size) (hpos : 0 < size) (hopen : ∀ cs, Fit enc P w e cs → ∃ a, cs = cells a ∧ ok a)
    (h : Fit enc P w t v.cells.toList) (hv : ∃ ao n c, v = .slice ao n c) : ∃ xs, IsRow w size cells ok v xs ∧ xs.length * P.bytesOf e ≤ 140737488351232 := by
  obtain ⟨ao, n, c, rfl⟩ := hv
  rcases h.slice hu with h0 | ⟨a, len, cap, hc, hle, hm, hby, hel⟩
  · simp [Value.cells] at h0
    obtain ⟨rfl, rfl, rfl⟩ := h0
    exact ⟨[], ⟨none, 0, rfl, Nat.le_refl _, fun _ => rfl, fun i a ha => by simp at ha⟩, by simp⟩
  · simp [Value.cells] at hc
    obtain ⟨rfl, rfl, rfl⟩ := hc
    have key : ∀ i, i < n → ∃ x, ok x ∧ ∃ b o, a = ⟨b, o, none⟩ ∧ w.rangeAt b (o + i * size) (cells x) := by
      intro i hi
      obtain ⟨cs', h1, h2⟩ := hel i hi
      obtain ⟨x, rfl, hok⟩ := hopen cs' h2
      obtain ⟨cs0, h10, _⟩ := hel 0 (by omega)
      have hspot : a.spot = none := by
        obtain ⟨_, hl, hc⟩ := World.cells?_some h10
        have hh := hc 0 (by omega)
        cases hsp : a.spot with
        | none => rfl
        | some s =>
          exfalso
          rw [hs] at hl
          have hadd : (a.add (0 * P.cellsOf e)).add 0 = a := by simp [Addr.add]
          rw [hadd] at hh
          have : w.cell? a = none := by
            simp only [World.cell?]
            split <;> simp [hsp]
          rw [this] at hh
          have := List.getElem?_eq_none_iff.1 hh.symm
          omega
      obtain ⟨b, o, sp⟩ := a
      simp at hspot
      subst hspot
      refine ⟨x, hok, b, o, rfl, ?_⟩
      rw [Addr.add_mid, hs] at h1
      exact (cells_range h1).1
    obtain ⟨xs, hl, hx⟩ := choose_list key
    refine ⟨xs, ⟨some a, c, by rw [hl], by omega, (fun h => by cases h), fun i x hxi => ?_⟩, by rw [hl]; exact hby⟩
    obtain ⟨h1, b, o, h2, h3⟩ := hx i x hxi
    exact ⟨h1, b, o, by rw [h2], h3⟩

/-- Bytes in a row of cells. -/
theorem Fit.bytes {e : TypeId} {n : Nat} (hu : P.underlying t = some (.array n e)) (he : P.underlying e = some (.int .u8)) (hc : P.cellsOf e = 1) (ht : P.cellsOf t = n) (h : Fit enc P w t cs) : ∃ l, cs = u8s l ∧ l.length = n := by
  obtain ⟨hl, hf⟩ := h.array hu
  rw [ht] at hl
  have key : ∀ i, i < n → ∃ b : UInt8, cs[i]? = some (u8 b) := by
    intro i hi
    have h1 := hf i hi
    rw [hc, Nat.mul_one] at h1
    obtain ⟨m, hm, hwf⟩ := h1.int he
    have hb := bounds_u8 hwf
    refine ⟨UInt8.ofNat m.toNat, ?_⟩
    have : cs[i]? = ((cs.drop i).take 1)[0]? := by rw [List.getElem?_take_of_lt (by omega), List.getElem?_drop]; rfl
    rw [this, hm, u8, UInt8.toNat_ofNat']
    simp
    omega
  refine ⟨cs.map fun v => match v with | .int _ m => UInt8.ofNat m.toNat | _ => 0, ?_, by simp [hl]⟩
  apply List.ext_getElem?
  intro i
  by_cases hi : i < n
  · obtain ⟨b, hb⟩ := key i hi
    rw [hb]
    simp [u8s, hb, u8]
  · rw [List.getElem?_eq_none (by omega), List.getElem?_eq_none (by simp [u8s]; omega)]
end
end Go.Proofs.Ytigkmdjdnkbdkaa
