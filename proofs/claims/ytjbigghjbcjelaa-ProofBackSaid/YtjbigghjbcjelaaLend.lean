/- Texts that are lent: in a place with marked room behind them. -/
import Derived.Test.YtjbigghjbcjelaaTreeP
namespace Go.Proofs.Ytjbigghjbcjelaa
open Go.RowKit

def room : List UInt8 := [126, 114, 111, 111, 109]
def behind : List UInt8 := [126, 98, 101, 104, 105, 110, 100]
/-- Texts that are lent. -/
def LentT (w : World) (v : Value) (l : List (List UInt8)) : Prop :=
  ∃ b c, v = .slice (some ⟨b, 0, none⟩) l.length c ∧ l.length + 2 ≤ c ∧ w.rangeAt b 0 (strs (l ++ [room, behind]))
theorem LentT.pure {w w' : World} {v : Value} {l : List (List UInt8)} (h : LentT w v l) (t : Pure w w') : LentT w' v l := by
  obtain ⟨b, c, h1, h2, h3⟩ := h
  exact ⟨b, c, h1, h2, t.range h3 (fun e => e)⟩
theorem LentT.texts {w : World} {v : Value} {l : List (List UInt8)} (h : LentT w v l) : Texts w v l := by
  obtain ⟨b, c, rfl, h2, h3⟩ := h
  refine ⟨_, c, rfl, by omega, fun _ => ⟨b, 0, rfl, fun j v hj => h3 j v ?_⟩⟩
  have e : strs (l ++ [room, behind]) = strs l ++ strs [room, behind] := by simp [strs]
  rw [e, List.getElem?_append_left (List.getElem?_eq_some_iff.1 hj).1]
  exact hj

set_option maxHeartbeats 1000000 in
theorem CopyTexts_any (w : World) (v : Value) (l : List (List UInt8)) (h : Texts w v l) (hlen : l.length ≤ 8796093021952) :
    Calls Try.prog 38 #[v] w fun e w' => ∃ r, e = .returned r ∧ w'.ownsRow 0 9 1 r l.length (strs l) ∧ (∀ k, r.ownBlock = some k → w.heap.size ≤ k) ∧ Pure w w' := by
  obtain ⟨iS, HIS, hSz, hSs, hSb⟩ := partsStr
  have hIS := HIS.out
  have hp : Pure w (w.alloc (.cells #[] 9)) := (Turn.refl _ _).alloc _
  have hs := (h.pure hp).src
  have HS := Lib.hid hs; clear hs
  have ho : (w.alloc (.cells #[] 9)).ownsRow 0 9 1 (.slice (some ⟨w.heap.size, 0, none⟩) 0 0) 0 [] :=
    ⟨rfl, .inr ⟨w.heap.size, 0, #[], rfl, Nat.zero_le _, heap_alloc_new _ _, Nat.le_refl _, by decide, rfl, rfl⟩⟩
  have HO := Lib.hid ho; clear ho
  obtain ⟨av, cv, rfl, _, _⟩ := h
  go_enter Try.func38, Try.ntmps38
  go_wp2_with (at_builtin; refine wpList_append_turn _ rfl _ _ 22 22 9 rfl iS _ 1 16 Try.underlying22 hIS hSz hSs hSb rfl _ _ _ rfl HO.out _ rfl l.length _ HS.out (by omega) (by omega) ?_)
  intro ao c w2 ho2 ht2 hb2
  have hT : Pure w w2 := hp.trans ht2 fun i hi e => by have : w.heap.size = i := Option.some.inj e; omega
  have hB : ∀ k, (Value.slice ao l.length c).ownBlock = some k → w.heap.size ≤ k := by
    intro k hk
    rcases hb2.out with e | e
    · have e2 := hk.symm.trans e
      have : k = w.heap.size := Option.some.inj e2
      omega
    · have e2 := hk.symm.trans e
      have := Option.some.inj e2
      omega
  have HT := Lib.hid hT; clear hT ht2 hb2
  have HB := Lib.hid hB; clear hB
  have HO2 := Lib.hid ho2; clear ho2
  go_wp2
  go_ret
  exact ⟨_, rfl, HO2.out, HB.out, HT.out⟩

set_option maxHeartbeats 1000000 in
theorem LendTexts_any (w : World) (v : Value) (l : List (List UInt8)) (h : Texts w v l) (hlen : l.length ≤ 8796093021952) :
    Calls Try.prog 12 #[v] w fun e w' => ∃ r, e = .returned r ∧ LentT w' r l ∧ Pure w w' := by
  obtain ⟨iS, HIS, hSz, hSs, hSb⟩ := partsStr
  have hIS := HIS.out
  have hh := h
  obtain ⟨ao0, cap0, rfl, hcap0, _⟩ := hh
  go_enter Try.func12, Try.ntmps12
  go_wp2_with fail
  refine (CopyTexts_any _ _ _ h hlen).mono ?_
  rintro e w1 ⟨r, rfl, ho1, hb1, ht1⟩
  have hA : Pure w1 (w1.alloc (.cells (strs [room, behind]).toArray 9)) := (Turn.refl _ _).alloc _
  have ho2 := hA.own ho1 (fun _ _ e => e)
  have hs : Src Try.prog 1 22 (.slice (some ⟨w1.heap.size, 0, none⟩) 2 2) 2 (strs [room, behind]) (w1.alloc (.cells (strs [room, behind]).toArray 9)) :=
    Src.ofSlice _ Try.underlying22 _ _ _ _ rfl (World.news_of_block (heap_alloc_new w1 _)) (strs_one _)
  have HS := Lib.hid hs; clear hs
  have HO := Lib.hid ho2; clear ho2 ho1
  have HA := Lib.hid (ht1.pure hA)
  have HB := Lib.hid hb1; clear hb1
  have HT := Lib.hid ht1; clear ht1 hA
  clear h
  go_wp2_with (at_builtin; refine wpList_append_turn _ rfl _ _ 22 22 9 rfl iS _ 1 16 Try.underlying22 hIS hSz hSs hSb rfl _ _ _ rfl HO.out _ rfl 2 _ HS.out (by omega) (by omega) ?_)
  intro ao c w2 ho2 ht2 hb2
  have hT : Pure w w2 := HA.out.trans ht2 fun i hi e => by have := HB.out i e; omega
  have hst : strs l ++ strs [room, behind] = strs (l ++ [room, behind]) := by simp [strs]
  rw [hst] at ho2
  have hgc : ∃ b, ao = some ⟨b, 0, none⟩ ∧ l.length + 2 ≤ c := by
    rcases ho2.2 with ⟨e, h0⟩ | ⟨g, cap, cur, e, _, _, hn, _⟩
    · omega
    · simp only [Value.slice.injEq] at e
      obtain ⟨rfl, _, rfl⟩ := e
      exact ⟨g, rfl, hn⟩
  obtain ⟨b, rfl, hc⟩ := hgc
  have hrg : w2.rangeAt b 0 (strs (l ++ [room, behind])) := by
    intro j u hj
    have := ho2.cells (g := b) rfl j u hj
    rwa [Addr.add_mid] at this
  have HR := Lib.hid hrg; clear hrg ho2 ht2 hb2
  have HT2 := Lib.hid hT; clear hT
  have q1 : (l.length : Int) ≤ c := by omega
  have qc : ¬ c = 0 := by omega
  have q0 : (0 : Int) ≤ (l.length : Int) := by omega
  go_wp2
  go_ret
  exact ⟨_, rfl, ⟨b, c, rfl, hc, HR.out⟩, HT2.out⟩

set_option maxHeartbeats 1000000 in
theorem SameTexts_any (w : World) (v u : Value) (l : List (List UInt8)) (h : Texts w v l) (k : Texts w u l) (hlen : l.length ≤ 8796093021952) :
    Calls Try.prog 44 #[v, u] w fun e w' => e = .returned (.bool true) ∧ Pure w w' := by
  obtain ⟨ao, c, rfl, h2, h3⟩ := h
  obtain ⟨bo, d, rfl, k2, k3⟩ := k
  have H3 := Lib.hid h3; have K3 := Lib.hid k3; clear h3 k3
  have hnn : ((l.length : Int) != (l.length : Int)) = false := by simp
  go_enter Try.func44, Try.ntmps44
  go_wp2
  go_loopw [4, 5] (fun _ i wr => ∃ j : Nat, j ≤ l.length ∧ i = .int .i64 (j : Int) ∧ Hid (Pure w wr)) (fun _ i _ => l.length - (intOf i).toNat)
  case atStart => exact ⟨0, by omega, rfl, Lib.hid (Turn.refl _ _)⟩
  case round =>
    obtain ⟨j, hj, rfl, HP⟩ := hrel
    by_cases hlt : j < l.length
    · have hne : l ≠ [] := fun e => by rw [e] at hlt; simp at hlt
      obtain ⟨b, o, rfl, hr⟩ := H3.out hne
      obtain ⟨b2, o2, rfl, kr⟩ := K3.out hne
      have c1 : wr.cell? ⟨b, o + j, none⟩ = some (.string (bstr l[j])) := HP.out.cell (hr j _ (by simp [strs, hlt])) (fun e => e)
      have c2 : wr.cell? ⟨b2, o2 + j, none⟩ = some (.string (bstr l[j])) := HP.out.cell (kr j _ (by simp [strs, hlt])) (fun e => e)
      generalize l[j] = x at c1 c2
      have q1 : (j : Int) < l.length := by omega
      have q0 : (0 : Int) ≤ j := by omega
      clear hr kr
      go_wp2_with fail
      go_quiet (fail)
      have HP2 := Lib.hid (HP.out.drewN nq)
      go_wp2
      exact ⟨⟨j + 1, by omega, by go_num, HP2⟩, by simp [intOf]; omega⟩
    · obtain rfl : j = l.length := by omega
      have q1 : ¬ ((l.length : Int) < l.length) := by omega
      go_wp2
      go_ret
      exact ⟨rfl, HP.out⟩

set_option maxHeartbeats 1000000 in
theorem KeptTexts_any (w : World) (v u : Value) (l : List (List UInt8)) (h : LentT w v l) (k : Texts w u l) (hlen : l.length ≤ 8796093021952) :
    Calls Try.prog 21 #[v, u] w fun e w' => e = .returned (.bool true) ∧ Pure w w' := by
  have hI := h.texts
  have kk := k
  obtain ⟨b, c, rfl, h2, h3⟩ := h
  obtain ⟨ao2, d, rfl, hd, _⟩ := kk
  have c1 : w.cell? ⟨b, 0 + l.length, none⟩ = some (.string ⟨#[126, 114, 111, 111, 109]⟩) := h3 l.length _ (by simp [strs]; rfl)
  have c2 : w.cell? ⟨b, 0 + (l.length + 1), none⟩ = some (.string ⟨#[126, 98, 101, 104, 105, 110, 100]⟩) := h3 (l.length + 1) _ (by simp [strs]; rfl)
  rw [Nat.zero_add] at c1 c2
  have i1 : IntKind.i64.wrap ((l.length : Int) + 1) = (l.length : Int) + 1 := IntWalk.i64_in _ (by omega)
  have i2 : IntKind.i64.wrap ((l.length : Int) + 2) = (l.length : Int) + 2 := IntWalk.i64_in _ (by omega)
  have hi1 : ((l.length : Int)).toNat = l.length := by omega
  have hi2 : ((l.length : Int) + 1).toNat = l.length + 1 := by omega
  have hi3 : ((l.length : Int) + 2).toNat = l.length + 2 := by omega
  have q1 : (l.length : Int) + 2 ≤ c := by omega
  have q2 : (0 : Int) ≤ (l.length : Int) + 2 := by omega
  have q3 : (l.length : Int) < (l.length : Int) + 2 := by omega
  have q4 : (l.length : Int) + 1 < (l.length : Int) + 2 := by omega
  have q5 : (0 : Int) ≤ (l.length : Int) + 1 := by omega
  have qc : ¬ c = 0 := by omega
  go_enter Try.func21, Try.ntmps21
  go_wp2_with fail
  refine (SameTexts_any _ _ _ _ hI k hlen).mono ?_
  rintro e w1 ⟨rfl, ht1⟩
  have d1 := ht1.cell c1 (fun e => e)
  have d2 := ht1.cell c2 (fun e => e)
  clear c1 c2
  go_wp2
  go_ret
  exact ⟨rfl, ht1⟩
end Go.Proofs.Ytjbigghjbcjelaa
