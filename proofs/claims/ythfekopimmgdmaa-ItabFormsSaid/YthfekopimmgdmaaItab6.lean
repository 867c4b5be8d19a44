/- Chapter 14: Get. -/
import Derived.Test.YthfekopimmgdmaaItab5
namespace Go.Proofs.Ythfekopimmgdmaa
open Go.RowKit

theorem tabE_length {xs : List Ino} (h : ∀ x ∈ xs, x.root.length = 32) : (tabE xs).length = 2 + 38 * xs.length := by
  rw [tabE, List.length_append, flat_length h]; rfl
/-- How Get takes bytes apart. -/
theorem get_parts (g : Nat) (s : List UInt8) : ∃ (K E1 E2 : Int) (n : Nat) (S1 S2 : List UInt8), n ≤ 255 ∧
    (∀ W, IsRd 117 W g s → Calls Try.prog 35 #[.pointer (some ⟨g, 0, none⟩), .int .i64 1] W fun e w' => e = .returned (.tuple #[.int .i64 K, .int .i64 E1]) ∧ Read 117 W w' g S1) ∧
    (∀ W, IsRd 117 W g S1 → Calls Try.prog 35 #[.pointer (some ⟨g, 0, none⟩), .int .i64 1] W fun e w' => e = .returned (.tuple #[.int .i64 (n : Int), .int .i64 E2]) ∧ Read 117 W w' g S2) ∧
    getT s = if K = 84 ∧ 38 * n ≤ S2.length ∧ tabB (tabD S2 n) = true ∧ tabE (tabD S2 n) = s then (tabD S2 n, 0) else ([], 1400) := by
  match s with
  | [] =>
    refine ⟨0, 300, 300, 0, [], [], by omega, fun W h => RNum_any W g [] 1 h, fun W h => RNum_any W g [] 1 h, ?_⟩
    rw [if_neg (by simp), getT, if_pos (by simp)]
  | [a] =>
    refine ⟨(a.toNat : Int), 0, 300, 0, [], [], by omega, fun W h => ?_, fun W h => RNum_any W g [] 1 h, ?_⟩
    · have := RNum_any W g [a] 1 h
      rw [rdNum_one] at this
      exact this
    · rw [if_neg (fun h => by have := congrArg List.length h.2.2.2; simp [tabD, tabE, beB] at this), getT, if_pos (by simp)]
  | a :: b :: t =>
    refine ⟨(a.toNat : Int), 0, 0, b.toNat, b :: t, t, by have := b.toNat_lt; omega, fun W h => ?_, fun W h => ?_, ?_⟩
    · have := RNum_any W g (a :: b :: t) 1 h
      rw [rdNum_one] at this
      exact this
    · have := RNum_any W g (b :: t) 1 h
      rw [rdNum_one] at this
      exact this
    · rw [getT]
      simp only [List.getD_cons_zero, List.getD_cons_succ, List.drop_succ_cons, List.drop_zero, List.length_cons]
      generalize hn : b.toNat = n
      have hb1 : beB n 1 = [b] := by rw [← hn]; exact beB_one b
      by_cases ha : a = 84
      · subst ha
        by_cases hl : t.length + 1 + 1 = 2 + 38 * n
        · have he : tabE (tabD t n) = 84 :: b :: t := by rw [tabE, tabD_length, hb1, tabE_tabD n t (by omega)]; rfl
          rw [if_neg (by simp; omega)]
          by_cases hb : tabB (tabD t n) = true
          · rw [if_pos hb, if_pos ⟨rfl, by omega, hb, he⟩]
          · rw [if_neg hb, if_neg (fun h => hb h.2.2.1)]
        · rw [if_pos (by simp; omega), if_neg (fun h => by
            have h1 := congrArg List.length h.2.2.2
            rw [tabE_length (tabD_root n t h.2.1), tabD_length] at h1
            simp at h1
            omega)]
      · rw [if_pos (.inr (.inl ha)), if_neg (fun h => by
          have h1 := h.1
          have : a.toNat = 84 := by omega
          exact ha (UInt8.toNat_inj.1 this))]

set_option maxRecDepth 100000 in
set_option maxHeartbeats 4000000 in
theorem Get_any (w : World) (s : List UInt8) (hs : s.length ≤ 140737488351232) :
    Calls Try.prog 12 #[.string (bstr s)] w fun e w' => ∃ r, e = .returned (.tuple #[r, .int .i64 (getT s).2]) ∧ Rows inoC 37 w' r (getT s).1 ∧ Pure w w' := by
  obtain ⟨K, E1, E2, n, S1, S2, hn, hc1, hc2, hG⟩ := get_parts w.heap.size s
  have HC1 := Lib.hid hc1; have HC2 := Lib.hid hc2; have HG := Lib.hid hG
  clear hc1 hc2 hG
  go_enter Try.func12, Try.ntmps12
  go_wp2_with fail
  refine (Open_own s (Turn.refl _ w) (by omega)).mono ?_
  rintro e w1 ⟨rfl, o1⟩
  have HP := Lib.hid o1.pure; have HR := Lib.hid o1.rd
  have hgl : w.heap.size < w1.heap.size := o1.rd.lt
  obtain ⟨g, hg⟩ : ∃ g, g = w.heap.size := ⟨_, rfl⟩
  have lg : w.heap.size ≤ g := by omega
  rw [← hg] at HC1 HC2 HR hgl ⊢
  clear o1 hg
  have n4 : (w1.alloc (.cells #[.pointer (some ⟨g, 0, none⟩)] 71)).heap[w1.heap.size]? = some (.cells #[.pointer (some ⟨g, 0, none⟩)] 71 (0, 0)) := heap_alloc_new _ _
  have p4 : Pure w1 (w1.alloc (.cells #[.pointer (some ⟨g, 0, none⟩)] 71)) := (Turn.refl _ _).alloc _
  have k4 : (w1.alloc (.cells #[.pointer (some ⟨g, 0, none⟩)] 71)).cell? ⟨w1.heap.size, 0, none⟩ = some (.pointer (some ⟨g, 0, none⟩)) := by rw [cell_of_row _ w1.heap.size 0 _ _ _ n4]; rfl
  have HP := Lib.hid (HP.out.pure p4); have HR := Lib.hid (HR.out.turn p4 (fun e => e)); have DV := Lib.hid n4
  have hne : w1.heap.size ≠ g := by omega
  clear n4 p4
  go_wp2_with fail
  generalize w1.alloc (.cells #[.pointer (some ⟨g, 0, none⟩)] 71) = w2 at *
  generalize w1.heap.size = gv at *
  refine (HC1.out _ HR.out).mono ?_
  rintro e w3 ⟨rfl, r3⟩
  have HP := Lib.hid (HP.out.trans r3.turn fun q hq e => by omega : Pure w w3); have HR := Lib.hid r3.rd; have DV := Lib.hid (r3.turn.obj DV.out hne)
  clear r3 k4 HC1
  have k4 : w3.cell? ⟨gv, 0, none⟩ = some (.pointer (some ⟨g, 0, none⟩)) := by rw [cell_of_row _ gv 0 _ _ _ DV.out]; rfl
  go_wp2_with fail
  refine (HC2.out _ HR.out).mono ?_
  rintro e w5 ⟨rfl, r5⟩
  have HP := Lib.hid (HP.out.trans r5.turn fun q hq e => by omega : Pure w w5); have HR := Lib.hid r5.rd; have DV := Lib.hid (r5.turn.obj DV.out hne)
  clear r5 k4 HC2
  go_wp2_with fail
  refine (Many_any _ n gv g S2 hn DV.out hne HR.out).mono ?_
  rintro e w6 ⟨r, err, rfl, hm, t6⟩
  have HP := Lib.hid (HP.out.trans t6 fun q hq e => by omega : Pure w w6)
  clear t6 DV HR
  rcases hm with ⟨rfl, hl, hrow⟩ | ⟨herr, hl, rfl⟩
  · have hroot : ∀ x ∈ tabD S2 n, x.root.length = 32 := tabD_root n S2 hl
    have hput := Put_any w6 r (tabD S2 n) hrow hroot (by rw [tabD_length]; omega)
    obtain ⟨XS, hXS⟩ : ∃ XS, XS = tabD S2 n := ⟨_, rfl⟩
    rw [← hXS] at hput hrow HG
    have HPUT := Lib.hid hput; have HROW := Lib.hid hrow
    obtain ⟨ra, rc, rfl⟩ : ∃ ra rc, r = .slice ra XS.length rc := by obtain ⟨ao, cap, h, _⟩ := hrow; exact ⟨ao, cap, h⟩
    have HL := Lib.hid hl
    clear hput hrow hroot hl hXS
    by_cases hb : tabB XS = true
    · rw [putT, if_pos hb] at HPUT
      have HB := Lib.hid hb
      clear hb
      obtain ⟨TX, hTX⟩ : ∃ TX, TX = tabE XS := ⟨_, rfl⟩
      rw [← hTX] at HPUT HG
      clear hTX
      by_cases hK : K = 84
      · have q1 : (K != 84) = false := by rw [hK]; rfl
        have HK := Lib.hid hK
        clear hK
        by_cases hE : TX = s
        · subst hE
          have hGG : getT TX = (XS, 0) := by rw [HG.out, if_pos ⟨HK.out, HL.out, HB.out, rfl⟩]
          have HGG := Lib.hid hGG
          clear hGG
          go_wp2_with fail
          refine (HPUT.out).mono ?_
          rintro e w7 ⟨rfl, t7⟩
          have HP := Lib.hid (HP.out.pure t7); have HROW := Lib.hid (HROW.out.pure t7)
          clear t7
          go_wp2
          go_ret2
          exact ⟨.slice ra XS.length rc, by first | (rw [HGG.out]; done) | (rw [HGG.out]; rfl), by rw [HGG.out]; exact HROW.out, HP.out⟩
        · have q2 : (TX == s) = false := beq_eq_false_iff_ne.2 hE
          have hGG : getT s = ([], 1400) := by rw [HG.out, if_neg fun h => hE h.2.2.2]
          have HGG := Lib.hid hGG
          clear hGG hE
          go_wp2_with fail
          refine (HPUT.out).mono ?_
          rintro e w7 ⟨rfl, t7⟩
          have HP := Lib.hid (HP.out.pure t7)
          clear t7
          go_wp2
          go_ret2
          exact ⟨.slice none 0 0, by first | (rw [HGG.out]; done) | (rw [HGG.out]; rfl), by rw [HGG.out]; exact rows_nil _ _ _, HP.out⟩
      · have q1 : (K != 84) = true := bne_iff_ne.2 hK
        have hGG : getT s = ([], 1400) := by rw [HG.out, if_neg fun h => hK h.1]
        have HGG := Lib.hid hGG
        clear hGG hK
        go_wp2_with fail
        refine (HPUT.out).mono ?_
        rintro e w7 ⟨rfl, t7⟩
        have HP := Lib.hid (HP.out.pure t7)
        clear t7
        go_wp2
        go_ret2
        exact ⟨.slice none 0 0, by first | (rw [HGG.out]; done) | (rw [HGG.out]; rfl), by rw [HGG.out]; exact rows_nil _ _ _, HP.out⟩
    · rw [putT, if_neg hb] at HPUT
      have hGG : getT s = ([], 1400) := by rw [HG.out, if_neg fun h => hb h.2.2.1]
      have HGG := Lib.hid hGG
      clear hGG hb
      by_cases hK : K = 84
      · have q1 : (K != 84) = false := by rw [hK]; rfl
        clear hK
        go_wp2_with fail
        refine (HPUT.out).mono ?_
        rintro e w7 ⟨rfl, t7⟩
        have HP := Lib.hid (HP.out.pure t7)
        clear t7
        go_wp2
        go_ret2
        exact ⟨.slice none 0 0, by first | (rw [HGG.out]; done) | (rw [HGG.out]; rfl), by rw [HGG.out]; exact rows_nil _ _ _, HP.out⟩
      · have q1 : (K != 84) = true := bne_iff_ne.2 hK
        clear hK
        go_wp2_with fail
        refine (HPUT.out).mono ?_
        rintro e w7 ⟨rfl, t7⟩
        have HP := Lib.hid (HP.out.pure t7)
        clear t7
        go_wp2
        go_ret2
        exact ⟨.slice none 0 0, by first | (rw [HGG.out]; done) | (rw [HGG.out]; rfl), by rw [HGG.out]; exact rows_nil _ _ _, HP.out⟩
  · have hGG : getT s = ([], 1400) := by rw [HG.out, if_neg fun h => by omega]
    have HGG := Lib.hid hGG
    have q2 : (err != 0) = true := bne_iff_ne.2 herr
    have HPUT := Lib.hid (Put_any w6 (.slice none 0 0) [] (rows_nil w6 none 0) (fun x hx => by simp at hx) (by simp))
    generalize (putT []).1 = TX at HPUT
    generalize (putT []).2 = EX at HPUT
    clear hGG herr
    by_cases hK : K = 84
    · have q1 : (K != 84) = false := by rw [hK]; rfl
      clear hK
      go_wp2_with fail
      refine (HPUT.out).mono ?_
      rintro e w7 ⟨rfl, t7⟩
      have HP := Lib.hid (HP.out.pure t7)
      clear t7
      go_wp2
      go_ret2
      exact ⟨.slice none 0 0, by first | (rw [HGG.out]; done) | (rw [HGG.out]; rfl), by rw [HGG.out]; exact rows_nil _ _ _, HP.out⟩
    · have q1 : (K != 84) = true := bne_iff_ne.2 hK
      clear hK
      go_wp2_with fail
      refine (HPUT.out).mono ?_
      rintro e w7 ⟨rfl, t7⟩
      have HP := Lib.hid (HP.out.pure t7)
      clear t7
      go_wp2
      go_ret2
      exact ⟨.slice none 0 0, by first | (rw [HGG.out]; done) | (rw [HGG.out]; rfl), by rw [HGG.out]; exact rows_nil _ _ _, HP.out⟩
end Go.Proofs.Ythfekopimmgdmaa
