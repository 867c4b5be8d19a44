/- Chapter 6: signatures are asked. Chapter 6: signatures are asked by the reference. -/
import Derived.Test.YtcfbmbhkdicpfaaHss5
namespace Go.Proofs.Ytcfbmbhkdicpfaa
open Go.RowKit
set_option maxRecDepth 100000

theorem zeroST : (Try.prog.info? 83).bind (·.zero) = some (.agg [Value.string ⟨#[]⟩, .string ⟨#[]⟩, .string ⟨#[]⟩].toArray) := by kernel_rfl
theorem infoST3 : (Try.prog.info? 83).map (·.size) = some 3 := by kernel_rfl
theorem three_of {w : World} {g : Nat} {a b c d e f : Value} {T : TypeId} (h : w.heap[g]? = some (.cells [a, b, c, d, e, f].toArray T (0, 0))) : w.rangeAt g 0 [a, b, c] ∧ w.rangeAt g 3 [d, e, f] := by
  have hr := range_of_row h
  refine ⟨fun j v hj => ?_, fun j v hj => ?_⟩
  · refine hr j v ?_
    have hl := (List.getElem?_eq_some_iff.1 hj).1
    simp only [List.length_cons, List.length_nil] at hl
    rcases (by omega : j = 0 ∨ j = 1 ∨ j = 2) with rfl | rfl | rfl <;> exact hj
  · have := hr (3 + j) v (by
      have hl := (List.getElem?_eq_some_iff.1 hj).1
      simp only [List.length_cons, List.length_nil] at hl
      rcases (by omega : j = 0 ∨ j = 1 ∨ j = 2) with rfl | rfl | rfl <;> exact hj)
    simpa using this

set_option maxHeartbeats 4000000 in
theorem HVerify_any (w : World) (pub msg sign : List UInt8) (hp : pub.length ≤ 140737488351232) (hs : sign.length ≤ 140737488351232) : Calls Try.prog 19 #[.string (bstr pub), .string (bstr msg), .string (bstr sign)] w fun e w' =>
    e = .returned (.int .i64 (hverifyV pub msg sign)) ∧ Pure w w' := by
  have HAP := Lib.hid (hapart_any w pub msg sign hp hs)
  have hv := hverifyV_is pub msg sign
  by_cases hB : hapartP pub sign
  · rw [if_pos hB] at hv
    have hst := fun (W : World) V (h : stepsAt W V pub msg sign) => (show ∃ g, V = .slice (some ⟨g, 0, none⟩) 2 2 ∧ W.heap[g]? = some (.cells [Value.string (bstr (pub.drop 4)), .string (bstr ((sign.drop (4 + pkSize (apartV (pub.drop 4)).1)).take 56)), .string (bstr ((sign.drop 4).take (pkSize (apartV (pub.drop 4)).1))),
      .string (bstr ((sign.drop (4 + pkSize (apartV (pub.drop 4)).1)).take 56)), .string (bstr msg), .string (bstr (sign.drop (60 + pkSize (apartV (pub.drop 4)).1)))].toArray 83 (0, 0)) from h)
    generalize pkSize (apartV (pub.drop 4)).1 = Z at *
    obtain ⟨top, htop⟩ : ∃ top, top = pub.drop 4 := ⟨_, rfl⟩
    obtain ⟨low, hlow⟩ : ∃ low, low = (sign.drop (4 + Z)).take 56 := ⟨_, rfl⟩
    obtain ⟨sg1, hsg1⟩ : ∃ sg1, sg1 = (sign.drop 4).take Z := ⟨_, rfl⟩
    obtain ⟨sg2, hsg2⟩ : ∃ sg2, sg2 = sign.drop (60 + Z) := ⟨_, rfl⟩
    have l1 : top.length ≤ 140737488351232 := by rw [htop, List.length_drop]; exact Nat.le_trans (Nat.sub_le _ _) hp
    have l2 : low.length ≤ 140737488351232 := by rw [hlow, List.length_take]; exact Nat.le_trans (Nat.min_le_left _ _) (by decide)
    have l3 : sg1.length ≤ 140737488351232 := by rw [hsg1, List.length_take, List.length_drop]; exact Nat.le_trans (Nat.min_le_right _ _) (Nat.le_trans (Nat.sub_le _ _) hs)
    have l4 : sg2.length ≤ 140737488351232 := by rw [hsg2, List.length_drop]; exact Nat.le_trans (Nat.sub_le _ _) hs
    rw [← hlow, ← hsg1, ← hsg2, ← htop] at hv
    rw [← hlow, ← hsg1, ← hsg2, ← htop] at hst
    have h1 := fun W => LVerify_any W top low sg1 l1 l3
    have h2 := fun W => LVerify_any W low msg sg2 l2 l4
    generalize verifyV top low sg1 = e1 at *
    generalize verifyV low msg sg2 = e2 at *
    have H1 := Lib.hid h1; have H2 := Lib.hid h2; have HST := Lib.hid hst
    obtain ⟨o1, ho1⟩ : ∃ o1 : Int, o1 = (if e1 = 502 then 602 else 0) := ⟨_, rfl⟩
    obtain ⟨o2, ho2⟩ : ∃ o2 : Int, o2 = (if e2 = 502 then 602 else o1) := ⟨_, rfl⟩
    obtain ⟨OT, hOT1, hOT2, hOT3⟩ : ∃ OT : Nat → Int, OT 0 = 0 ∧ OT 1 = o1 ∧ OT 2 = o2 := ⟨fun j => if j = 0 then 0 else if j = 1 then o1 else o2, rfl, rfl, rfl⟩
    have hOT : OT 0 = 0 ∧ OT 1 = (if e1 = 502 then 602 else 0) ∧ OT 2 = (if e2 = 502 then 602 else OT 1) := ⟨hOT1, hOT2.trans ho1, by rw [hOT3, hOT2, ho2]⟩
    clear hOT1 hOT2 hOT3 ho1 ho2
    have HOT := Lib.hid hOT
    have HV := Lib.hid hv
    clear hst h1 h2 htop hlow hsg1 hsg2 l1 l2 l3 l4 hOT hp hs hv
    go_enter Try.func19, Try.ntmps19
    go_wp2_with fail
    refine (HAP.out).mono ?_
    rintro e w1 ⟨V, b, rfl, hb, hbs, t1⟩
    obtain rfl : b = true := hb.2 hB
    obtain ⟨g, rfl, d⟩ := HST.out _ _ (hbs rfl)
    have DG := Lib.hid d; have PT := Lib.hid t1
    clear hb hbs d t1 hB HAP HST
    go_wp2_with fail
    go_loopw [9, 23] (fun o i wr => ∃ j : Nat, j ≤ 2 ∧ i = .int .i64 (j : Int) ∧ o = .int .i64 (OT j) ∧ Hid ((1 ≤ j → e1 ≠ 500) ∧ (2 ≤ j → e2 ≠ 500)) ∧ Hid (wr.heap[g]? = some (.cells [Value.string (bstr top), .string (bstr low), .string (bstr sg1), .string (bstr low), .string (bstr msg), .string (bstr sg2)].toArray 83 (0, 0))) ∧ Hid (Pure w wr)) (fun _ i _ => 2 - (intOf i).toNat)
    case atStart => exact ⟨0, by omega, by first | rfl | trivial, by rw [HOT.out.1], Lib.hid ⟨fun h => absurd h (by decide), fun h => absurd h (by decide)⟩, DG, PT⟩
    case round =>
      obtain ⟨j, hj, rfl, rfl, HE, DG, PT⟩ := hrel
      rcases (by omega : j = 0 ∨ j = 1 ∨ j = 2) with rfl | rfl | rfl
      · obtain ⟨r0, r3⟩ := three_of DG.out
        clear r3
        go_wp2_with (first | (refine wpList_load_mid rfl 83 _ rfl g 0 rfl [Value.string (bstr top), .string (bstr low), .string (bstr sg1)] _ r0 Try.underlying83 rfl infoST3 ?_) | (refine wpList_allocZ rfl 83 rfl _ zeroST ?_))
        intro g11 w11 e11 c11 t11 s11
        have lg11 : w.heap.size ≤ g11 := by have := PT.out.size; omega
        have n11 : g ≠ g11 := by have := (Array.getElem?_eq_some_iff.1 DG.out).1; omega
        clear e11 s11 r0
        go_wp2_with (refine wpList_store_blk rfl 83 _ _ rfl g11 _ [Value.string (bstr top), .string (bstr low), .string (bstr sg1)] _ rfl rfl c11 rfl infoST3 (by intro v hv; simp only [List.mem_cons, List.mem_nil_iff, or_false] at hv; rcases hv with rfl | rfl | rfl <;> rfl) ?_)
        intro w12 d12 t12 _
        have DG := Lib.hid (t12.obj (t11.obj DG.out (fun e => e)) n11); have PT := Lib.hid ((PT.out.pure t11).newer t12 lg11)
        have k0 : w12.cell? ⟨g11, 0, none⟩ = some (.string (bstr top)) := by rw [cell_of_row w12 g11 0 _ _ _ d12]; rfl
        have k1 : w12.cell? ⟨g11, 1, none⟩ = some (.string (bstr low)) := by rw [cell_of_row w12 g11 1 _ _ _ d12]; rfl
        have k2 : w12.cell? ⟨g11, 2, none⟩ = some (.string (bstr sg1)) := by rw [cell_of_row w12 g11 2 _ _ _ d12]; rfl
        clear c11 t11 d12 t12
        go_wp2_with fail
        refine (H1.out _).mono ?_
        rintro e w13 ⟨rfl, t13⟩
        have DG := Lib.hid (t13.obj DG.out (fun e => e)); have PT := Lib.hid (PT.out.pure t13)
        clear t13 k0 k1 k2
        by_cases h5 : e1 = 500
        · have q5 : (e1 == 500) = true := by simp [h5]
          have HF : Hid (hverifyV pub msg sign = 600) := Lib.hid (by rw [HV.out, hbothV, if_pos h5])
          clear h5
          go_wp2
          go_ret
          exact ⟨by rw [HF.out]; rfl, PT.out⟩
        · have q5 : (e1 == 500) = false := by simp [h5]
          have HE2 : Hid ((1 ≤ 1 → e1 ≠ 500) ∧ (2 ≤ 1 → e2 ≠ 500)) := Lib.hid ⟨fun _ => h5, fun h => absurd h (by decide)⟩
          by_cases h2 : e1 = 502
          · have q2 : (e1 == 502) = true := by simp [h2]
            have HO : Hid (OT 1 = 602) := Lib.hid (by rw [HOT.out.2.1, if_pos h2])
            clear h5 h2
            go_wp2
            exact ⟨⟨1, by omega, by first | rfl | trivial, by rw [HO.out], HE2, DG, PT⟩, by simp [intOf]⟩
          · have q2 : (e1 == 502) = false := by simp [h2]
            have HO : Hid (OT 1 = OT 0) := Lib.hid (by rw [HOT.out.2.1, if_neg h2, HOT.out.1])
            clear h5 h2
            go_wp2
            exact ⟨⟨1, by omega, by first | rfl | trivial, by rw [HO.out], HE2, DG, PT⟩, by simp [intOf]⟩
      · obtain ⟨r0, r3⟩ := three_of DG.out
        clear r0
        go_wp2_with (first | (refine wpList_load_mid rfl 83 _ rfl g 3 rfl [Value.string (bstr low), .string (bstr msg), .string (bstr sg2)] _ r3 Try.underlying83 rfl infoST3 ?_) | (refine wpList_allocZ rfl 83 rfl _ zeroST ?_))
        intro g11 w11 e11 c11 t11 s11
        have lg11 : w.heap.size ≤ g11 := by have := PT.out.size; omega
        have n11 : g ≠ g11 := by have := (Array.getElem?_eq_some_iff.1 DG.out).1; omega
        clear e11 s11 r3
        go_wp2_with (refine wpList_store_blk rfl 83 _ _ rfl g11 _ [Value.string (bstr low), .string (bstr msg), .string (bstr sg2)] _ rfl rfl c11 rfl infoST3 (by intro v hv; simp only [List.mem_cons, List.mem_nil_iff, or_false] at hv; rcases hv with rfl | rfl | rfl <;> rfl) ?_)
        intro w12 d12 t12 _
        have DG := Lib.hid (t12.obj (t11.obj DG.out (fun e => e)) n11); have PT := Lib.hid ((PT.out.pure t11).newer t12 lg11)
        have k0 : w12.cell? ⟨g11, 0, none⟩ = some (.string (bstr low)) := by rw [cell_of_row w12 g11 0 _ _ _ d12]; rfl
        have k1 : w12.cell? ⟨g11, 1, none⟩ = some (.string (bstr msg)) := by rw [cell_of_row w12 g11 1 _ _ _ d12]; rfl
        have k2 : w12.cell? ⟨g11, 2, none⟩ = some (.string (bstr sg2)) := by rw [cell_of_row w12 g11 2 _ _ _ d12]; rfl
        clear c11 t11 d12 t12
        go_wp2_with fail
        refine (H2.out _).mono ?_
        rintro e w13 ⟨rfl, t13⟩
        have DG := Lib.hid (t13.obj DG.out (fun e => e)); have PT := Lib.hid (PT.out.pure t13)
        clear t13 k0 k1 k2
        by_cases h5 : e2 = 500
        · have q5 : (e2 == 500) = true := by simp [h5]
          have HF : Hid (hverifyV pub msg sign = 600) := Lib.hid (by rw [HV.out, hbothV, if_neg (HE.out.1 (by omega)), if_pos h5])
          clear h5
          go_wp2
          go_ret
          exact ⟨by rw [HF.out]; rfl, PT.out⟩
        · have q5 : (e2 == 500) = false := by simp [h5]
          have HE2 : Hid ((1 ≤ 2 → e1 ≠ 500) ∧ (2 ≤ 2 → e2 ≠ 500)) := Lib.hid ⟨fun _ => HE.out.1 (by omega), fun _ => h5⟩
          by_cases h2 : e2 = 502
          · have q2 : (e2 == 502) = true := by simp [h2]
            have HO : Hid (OT 2 = 602) := Lib.hid (by rw [HOT.out.2.2, if_pos h2])
            clear h5 h2
            go_wp2
            exact ⟨⟨2, by omega, by first | rfl | trivial, by rw [HO.out], HE2, DG, PT⟩, by simp [intOf]⟩
          · have q2 : (e2 == 502) = false := by simp [h2]
            have HO : Hid (OT 2 = OT 1) := Lib.hid (by rw [HOT.out.2.2, if_neg h2])
            clear h5 h2
            go_wp2
            exact ⟨⟨2, by omega, by first | rfl | trivial, by rw [HO.out], HE2, DG, PT⟩, by simp [intOf]⟩
      · have HF : Hid (hverifyV pub msg sign = OT 2) := Lib.hid (by
            rw [HV.out, hbothV, if_neg (HE.out.1 (by omega)), if_neg (HE.out.2 (by omega)), HOT.out.2.2, HOT.out.2.1]
            by_cases a : e1 = 502 <;> by_cases b : e2 = 502 <;> simp [a, b])
        go_wp2
        go_ret
        exact ⟨by rw [HF.out]; rfl, PT.out⟩
  · rw [if_neg hB] at hv
    rw [hv]
    clear hv
    go_enter Try.func19, Try.ntmps19
    go_wp2_with fail
    refine (HAP.out).mono ?_
    rintro e w1 ⟨V, b, rfl, hb, _, t1⟩
    obtain rfl : b = false := by cases b with
      | false => rfl
      | true => exact absurd (hb.1 rfl) hB
    have PT := Lib.hid t1
    clear hb t1 hB HAP
    go_wp2
    go_ret
    exact ⟨rfl, PT.out⟩
end Go.Proofs.Ytcfbmbhkdicpfaa
namespace Go.Proofs.Ytcfbmbhkdicpfaa
open Go.RowKit
set_option maxRecDepth 100000

theorem numB_inj : ∀ (n : Nat) (a b : List UInt8), a.length = n → b.length = n → numB a = numB b → a = b
  | 0, a, b, ha, hb, _ => by rw [List.eq_nil_of_length_eq_zero ha, List.eq_nil_of_length_eq_zero hb]
  | n + 1, a, b, ha, hb, h => by
    rcases List.eq_nil_or_concat a with rfl | ⟨a', x, rfl⟩
    · simp at ha
    rcases List.eq_nil_or_concat b with rfl | ⟨b', y, rfl⟩
    · simp at hb
    simp only [List.concat_eq_append] at *
    rw [numB_snoc, numB_snoc] at h
    have hx := x.toNat_lt
    have hy := y.toNat_lt
    have e1 : numB a' = numB b' := by omega
    have e2 : x = y := UInt8.toNat_inj.1 (by omega)
    rw [numB_inj n a' b' (by simpa using ha) (by simpa using hb) e1, e2]
theorem take4_iff {s : List UInt8} {x : Nat} (hx : x < 4294967296) : (4 ≤ s.length ∧ s.take 4 = beB x 4) ↔ rnumV s 0 = (x : Int) := by
  by_cases h4 : 4 ≤ s.length
  · rw [rnumV_n4 (by omega), List.drop_zero]
    constructor
    · rintro ⟨_, h⟩; rw [n4, h, numB_be4 hx]
    · intro h
      refine ⟨h4, numB_inj 4 _ _ (by rw [List.length_take]; omega) (beB_length _ _) ?_⟩
      rw [numB_be4 hx]
      have : n4 s = x := by omega
      exact this
  · constructor
    · rintro ⟨h, _⟩; exact absurd h h4
    · intro h
      rw [rnumV, if_neg (by omega)] at h
      omega
theorem verifyV_cases (p m t : List UInt8) : verifyV p m t = 0 ∨ verifyV p m t = 500 ∨ verifyV p m t = 502 := by
  unfold verifyV
  repeat' split
  all_goals simp
/-- As the reference asks it. -/
def hrefP (pub sign : List UInt8) : Prop := pub.length = 60 ∧ rnumV pub 0 = 2 ∧ rnumV sign 0 = 1
def hrefV (pub msg sign : List UInt8) (Z : Nat) : Int :=
  if Z = 0 ∨ sign.length < 4 + Z + 56 then 600 else
    hbothV (verifyV (pub.drop 4) ((sign.drop (4 + Z)).take 56) ((sign.drop 4).take Z)) (verifyV ((sign.drop (4 + Z)).take 56) msg (sign.drop (60 + Z)))
theorem href_no {pub sign : List UInt8} (msg : List UInt8) (h : ¬ hrefP pub sign) : hverifyV pub msg sign = 600 := by
  rw [hverifyV_is, if_neg]
  rintro ⟨h1, h2, h3, h4, _⟩
  exact h ⟨h1, (take4_iff (by decide)).1 ⟨by omega, h2⟩, (take4_iff (by decide)).1 ⟨h3, h4⟩⟩
theorem href_is {pub sign : List UInt8} (msg : List UInt8) (h : hrefP pub sign) : hverifyV pub msg sign = hrefV pub msg sign (lsizeV (rnumV pub 4) (rnumV pub 8)) := by
  obtain ⟨h1, h2, h3⟩ := h
  obtain ⟨_, h2⟩ := (take4_iff (x := 2) (by decide)).2 h2
  obtain ⟨h4, h3⟩ := (take4_iff (x := 1) (by decide)).2 h3
  have e4 : rnumV pub 4 = (n4 (pub.drop 4) : Int) := rnumV_n4 (by omega)
  have e8 : rnumV pub 8 = (n4 ((pub.drop 4).drop 4) : Int) := by rw [rnumV_n4 (by omega), List.drop_drop]
  rw [e4, e8]
  have ht : (pub.drop 4).length = 56 := by rw [List.length_drop]; omega
  have ha : apartV (pub.drop 4) = (⟨hgtV (n4 (pub.drop 4)), (n4 ((pub.drop 4).drop 4) : Int), ((pub.drop 4).drop 8).take 16, (pub.drop 4).drop 24⟩, decide (hgtV (n4 (pub.drop 4)) ≠ 0) && kindB (n4 ((pub.drop 4).drop 4))) := by rw [apartV, if_pos ht]
  have hP : hapartP pub sign ↔ ((apartV (pub.drop 4)).2 = true ∧ pkSize (apartV (pub.drop 4)).1 + 60 ≤ sign.length ∧ (apartV ((sign.drop (4 + pkSize (apartV (pub.drop 4)).1)).take 56)).2 = true) :=
    ⟨fun h => h.2.2.2.2, fun h => ⟨h1, h2, h4, h3, h⟩⟩
  by_cases hk : kindB (n4 ((pub.drop 4).drop 4)) = true ∧ hgtV (n4 (pub.drop 4)) ≠ 0
  · have hz : lsizeV (n4 (pub.drop 4)) (n4 ((pub.drop 4).drop 4)) = pkSize (apartV (pub.drop 4)).1 := by
      rw [lsizeV_pos hk.1 hk.2, ha]; rfl
    have hb : (apartV (pub.drop 4)).2 = true := by rw [ha]; show (decide (hgtV (n4 (pub.drop 4)) ≠ 0) && kindB (n4 ((pub.drop 4).drop 4))) = true; rw [hk.1, decide_eq_true hk.2]; rfl
    have h8 : 8 ≤ pkSize (apartV (pub.drop 4)).1 := (pkSize_le _ (apartV_height _)).1
    rw [hz]
    rw [hverifyV_is]
    generalize pkSize (apartV (pub.drop 4)).1 = Z at *
    unfold hrefV
    by_cases hs : sign.length < 4 + Z + 56
    · rw [if_pos (Or.inr hs), if_neg fun h => by have := (hP.1 h).2.1; omega]
    · rw [if_neg (show ¬ (Z = 0 ∨ sign.length < 4 + Z + 56) from fun h => h.elim (by omega) hs)]
      by_cases hl : (apartV ((sign.drop (4 + Z)).take 56)).2 = true
      · rw [if_pos (hP.2 ⟨hb, by omega, hl⟩)]
      · rw [if_neg fun h => hl (hP.1 h).2.2]
        have hv : verifyV ((sign.drop (4 + Z)).take 56) msg (sign.drop (60 + Z)) = 500 := by rw [verifyV, if_neg hl]
        rw [hv, hbothV]
        split <;> rfl
  · have hz : lsizeV (n4 (pub.drop 4)) (n4 ((pub.drop 4).drop 4)) = 0 := lsizeV_zero hk
    rw [hz, hverifyV_is, hrefV, if_pos (Or.inl rfl), if_neg]
    intro h
    have := (hP.1 h).1
    rw [ha] at this
    simp only [Bool.and_eq_true, decide_eq_true_eq] at this
    exact hk ⟨this.2, this.1⟩

theorem size_wraps (Z : Nat) (h : Z ≤ 3000) : wrap64 (4 + (Z : Int)) = ((4 + Z : Nat) : Int) ∧ wrap64 (60 + (Z : Int)) = ((60 + Z : Nat) : Int) ∧ wrap64 (((4 + Z : Nat) : Int) + 56) = ((60 + Z : Nat) : Int) :=
  ⟨by unfold wrap64; omega, by unfold wrap64; omega, by unfold wrap64; omega⟩
set_option maxHeartbeats 4000000 in
theorem RHVerify_any (w : World) (pub msg sign : List UInt8) (hp : pub.length ≤ 140737488351232) (hs : sign.length ≤ 140737488351232) : Calls Try.prog 20 #[.string (bstr pub), .string (bstr msg), .string (bstr sign)] w fun e w' =>
    e = .returned (.int .i64 (hverifyV pub msg sign)) ∧ Pure w w' := by
  have hp0 := fun W => rnum_any W pub 0 hp (by decide)
  have hp4 := fun W => rnum_any W pub 4 hp (by decide)
  have hp8 := fun W => rnum_any W pub 8 hp (by decide)
  have hs0 := fun W => rnum_any W sign 0 hs (by decide)
  have zp := bstr_size pub
  have zs := bstr_size sign
  have hno := href_no (pub := pub) (sign := sign) msg
  have hye := href_is (pub := pub) (sign := sign) msg
  unfold hrefP at hno hye
  generalize rnumV pub 0 = p0 at *
  generalize rnumV pub 4 = p4 at *
  generalize rnumV pub 8 = p8 at *
  generalize rnumV sign 0 = s0 at *
  have HP0 := Lib.hid hp0; have HP4 := Lib.hid hp4; have HP8 := Lib.hid hp8; have HS0 := Lib.hid hs0
  clear hp0 hp4 hp8 hs0
  obtain ⟨np, hnp⟩ : ∃ np, np = pub.length := ⟨_, rfl⟩
  obtain ⟨ns, hns⟩ : ∃ ns, ns = sign.length := ⟨_, rfl⟩
  rw [← hnp] at zp hno hye hp
  rw [← hns] at zs hs
  have HPS := Lib.hid (And.intro hnp hns)
  clear hnp hns
  by_cases h1 : np = 60
  case neg =>
    rw [hno (fun h => h1 h.1)]
    have d1 : ((np : Int) != 60) = true := by simp; omega
    clear hno hye h1 hp hs
    go_enter Try.func20, Try.ntmps20
    go_wp2
    go_ret
    exact ⟨rfl, Turn.refl _ _⟩
  subst h1
  have PT := Lib.hid (Turn.refl (fun _ => False) w)
  by_cases h2 : p0 = 2
  case neg =>
    rw [hno (fun h => h2 h.2.1)]
    have d2 : (p0 != 2) = true := by simpa using h2
    clear hno hye h2 hp hs
    go_enter Try.func20, Try.ntmps20
    go_wp2_with fail
    refine (HP0.out _).mono ?_
    rintro e w1 ⟨rfl, t1⟩
    have PT := Lib.hid (PT.out.pure t1)
    clear t1
    go_wp2
    go_ret
    exact ⟨rfl, PT.out⟩
  subst h2
  by_cases h3 : s0 = 1
  case neg =>
    rw [hno (fun h => h3 h.2.2)]
    have d3 : (s0 != 1) = true := by simpa using h3
    clear hno hye h3 hp hs
    go_enter Try.func20, Try.ntmps20
    go_wp2_with fail
    refine (HP0.out _).mono ?_
    rintro e w1 ⟨rfl, t1⟩
    have PT := Lib.hid (PT.out.pure t1)
    clear t1
    go_wp2_with fail
    refine (HS0.out _).mono ?_
    rintro e w2 ⟨rfl, t2⟩
    have PT := Lib.hid (PT.out.pure t2)
    clear t2
    go_wp2
    go_ret
    exact ⟨rfl, PT.out⟩
  subst h3
  have hv := hye ⟨rfl, rfl, rfl⟩
  have hsz := fun W => lmsSize_any W p4 p8
  have HSZ := Lib.hid hsz
  have hzl : lsizeV p4 p8 ≤ 3000 := by
    have a := parV_le p8
    have b := hgtV_le p4
    unfold lsizeV
    split <;> omega
  clear hno hye hsz
  generalize lsizeV p4 p8 = Z at *
  have WW := Lib.hid (size_wraps Z hzl)
  by_cases h4 : Z = 0
  case pos =>
    subst h4
    rw [hv, hrefV, if_pos (Or.inl rfl)]
    clear hv WW hp hs hzl
    go_enter Try.func20, Try.ntmps20
    go_wp2_with fail
    refine (HP0.out _).mono ?_
    rintro e w1 ⟨rfl, t1⟩
    have PT := Lib.hid (PT.out.pure t1)
    clear t1
    go_wp2_with fail
    refine (HS0.out _).mono ?_
    rintro e w2 ⟨rfl, t2⟩
    have PT := Lib.hid (PT.out.pure t2)
    clear t2
    go_wp2_with fail
    refine (HP4.out _).mono ?_
    rintro e w3 ⟨rfl, t3⟩
    have PT := Lib.hid (PT.out.pure t3)
    clear t3
    go_wp2_with fail
    refine (HP8.out _).mono ?_
    rintro e w4 ⟨rfl, t4⟩
    have PT := Lib.hid (PT.out.pure t4)
    clear t4
    go_wp2_with fail
    refine (HSZ.out _).mono ?_
    rintro e w5 ⟨rfl, rfl⟩
    go_wp2
    go_ret
    exact ⟨rfl, PT.out⟩
  have d4 : ((Z : Int) == 0) = false := by simp; omega
  have d4n : (Z == 0) = false := by simp; omega
  by_cases h5 : ns < 60 + Z
  case pos =>
    have hr : hverifyV pub msg sign = 600 := by rw [hv, hrefV, if_pos (Or.inr (by rw [← HPS.out.2]; omega))]
    rw [hr]
    have d5 : decide (ns < 60 + Z) = true := decide_eq_true (by omega)
    obtain ⟨u1, u2, u3⟩ := WW.out
    clear hv hr WW hp hs hzl h4 h5
    generalize 60 + Z = Y at *
    generalize 4 + Z = X at *
    go_enter Try.func20, Try.ntmps20
    go_wp2_with fail
    refine (HP0.out _).mono ?_
    rintro e w1 ⟨rfl, t1⟩
    have PT := Lib.hid (PT.out.pure t1)
    clear t1
    go_wp2_with fail
    refine (HS0.out _).mono ?_
    rintro e w2 ⟨rfl, t2⟩
    have PT := Lib.hid (PT.out.pure t2)
    clear t2
    go_wp2_with fail
    refine (HP4.out _).mono ?_
    rintro e w3 ⟨rfl, t3⟩
    have PT := Lib.hid (PT.out.pure t3)
    clear t3
    go_wp2_with fail
    refine (HP8.out _).mono ?_
    rintro e w4 ⟨rfl, t4⟩
    have PT := Lib.hid (PT.out.pure t4)
    clear t4
    go_wp2_with fail
    refine (HSZ.out _).mono ?_
    rintro e w5 ⟨rfl, rfl⟩
    go_wp2
    go_ret
    exact ⟨rfl, PT.out⟩
  have d5 : decide (ns < 60 + Z) = false := decide_eq_false (by omega)
  have U4 : Hid (IntKind.i64.wrap (4 + (Z : Int)) = ((4 + Z : Nat) : Int)) := Lib.hid (by rw [IntWalk.i64_in _ (by omega)]; omega)
  obtain ⟨top, htop⟩ : ∃ top, top = pub.drop 4 := ⟨_, rfl⟩
  obtain ⟨low, hlow⟩ : ∃ low, low = (sign.drop (4 + Z)).take 56 := ⟨_, rfl⟩
  obtain ⟨sg1, hsg1⟩ : ∃ sg1, sg1 = (sign.drop 4).take Z := ⟨_, rfl⟩
  obtain ⟨sg2, hsg2⟩ : ∃ sg2, sg2 = sign.drop (60 + Z) := ⟨_, rfl⟩
  have l1 : top.length ≤ 140737488351232 := by rw [htop, List.length_drop, ← HPS.out.1]; decide
  have l2 : low.length ≤ 140737488351232 := by rw [hlow, List.length_take]; exact Nat.le_trans (Nat.min_le_left _ _) (by decide)
  have l3 : sg1.length ≤ 140737488351232 := by rw [hsg1, List.length_take]; exact Nat.le_trans (Nat.min_le_left _ _) (by omega)
  have l4 : sg2.length ≤ 140737488351232 := by rw [hsg2, List.length_drop, ← HPS.out.2]; exact Nat.le_trans (Nat.sub_le _ _) hs
  have ex1 : (bstr pub).extract 4 60 = bstr top := by rw [bstr_ext, htop, List.take_of_length_le (by rw [← HPS.out.1]; exact Nat.le_refl _)]
  have ex2 : (bstr sign).extract (4 + Z) (60 + Z) = bstr low := by rw [bstr_ext, hlow, List.drop_take]; congr 2; omega
  have ex3 : (bstr sign).extract 4 (4 + Z) = bstr sg1 := by rw [bstr_ext, hsg1, List.drop_take]; congr 2; omega
  have ex4 : (bstr sign).extract (60 + Z) ns = bstr sg2 := by rw [bstr_ext, hsg2, List.take_of_length_le (by rw [← HPS.out.2]; exact Nat.le_refl _)]
  have hr : hverifyV pub msg sign = hbothV (verifyV top low sg1) (verifyV low msg sg2) := by rw [hv, hrefV, if_neg (fun h => h.elim h4 (fun h => by rw [← HPS.out.2] at h; omega)), htop, hlow, hsg1, hsg2]
  rw [hr]
  have hv1 := fun W => LmsVerifyR_any W top low sg1 l1 l3
  have hv2 := fun W => LmsVerifyR_any W low msg sg2 l2 l4
  have c1 := verifyV_cases top low sg1
  have c2 := verifyV_cases low msg sg2
  generalize verifyV top low sg1 = a at *
  generalize verifyV low msg sg2 = b at *
  have HV1 := Lib.hid hv1; have HV2 := Lib.hid hv2
  have q1 : (4 : Int) ≤ ((4 + Z : Nat) : Int) := by omega
  have q2 : ((4 + Z : Nat) : Int) ≤ ((60 + Z : Nat) : Int) := by omega
  have q3 : ((60 + Z : Nat) : Int) ≤ (ns : Int) := by omega
  have q4 : ((4 + Z : Nat) : Int) ≤ (ns : Int) := by omega
  have q5 : (0 : Int) ≤ ((4 + Z : Nat) : Int) := by omega
  have q6 : (0 : Int) ≤ ((60 + Z : Nat) : Int) := by omega
  obtain ⟨u1, u2, u3⟩ := WW.out
  clear hv hr hp hs hzl h4 h5 htop hlow hsg1 hsg2 l1 l2 l3 l4 hv1 hv2 WW
  generalize 60 + Z = Y at *
  generalize 4 + Z = X at *
  have HR : Hid (hbothV a b = if a = 500 ∨ b = 500 then 600 else if a ≠ 0 ∨ b ≠ 0 then 602 else 0) := Lib.hid (by
    rcases c1 with rfl | rfl | rfl <;> rcases c2 with rfl | rfl | rfl <;> rfl)
  obtain ⟨R, hR⟩ : ∃ R, R = hbothV a b := ⟨_, rfl⟩
  rw [← hR] at HR ⊢
  clear hR c1 c2
  go_enter Try.func20, Try.ntmps20
  go_wp2_with fail
  refine (HP0.out _).mono ?_
  rintro e w1 ⟨rfl, t1⟩
  have PT := Lib.hid (PT.out.pure t1)
  clear t1
  go_wp2_with fail
  refine (HS0.out _).mono ?_
  rintro e w2 ⟨rfl, t2⟩
  have PT := Lib.hid (PT.out.pure t2)
  clear t2
  go_wp2_with fail
  refine (HP4.out _).mono ?_
  rintro e w3 ⟨rfl, t3⟩
  have PT := Lib.hid (PT.out.pure t3)
  clear t3
  go_wp2_with fail
  refine (HP8.out _).mono ?_
  rintro e w4 ⟨rfl, t4⟩
  have PT := Lib.hid (PT.out.pure t4)
  clear t4
  go_wp2_with fail
  refine (HSZ.out _).mono ?_
  rintro e w5 ⟨rfl, rfl⟩
  go_wp2_with fail
  refine wp_region_G (S := fun w' => Pure w5 w' ∧ Held [] w') (T := fun _ _ _ => True) (by kernel_rfl) ⟨(Turn.refl _ _).drew, held_nil _⟩ trivial ?_
  have HG := Grow.held w5 []
  have u4 := U4.out
  refine atN 0 ?_
  iterate 7
    refine anyG_y HG (v := ?_) rfl (by kernel_rfl) (fun _ _ _ h => h) (fun _ _ _ => Iff.rfl) (Or.inl ⟨by rfl, fun w hSw => ?_⟩) ?_
    rotate_left
    · skip
      first | (go_simp; done) | (go_simp; with_reducible rfl)
    simp only [Nat.reduceAdd, AP]
  clear u4
  refine anyG_c HG (fun w hSw => HV1.out w) rfl (by kernel_rfl) (fun _ _ _ h => h) (fun _ _ _ => Iff.rfl) (by rfl) (fun w hSw => by go_simp; first | done | with_reducible rfl) ?_
  simp only [Nat.reduceAdd, AP]
  iterate 1
    refine anyG_y HG (v := ?_) rfl (by kernel_rfl) (fun _ _ _ h => h) (fun _ _ _ => Iff.rfl) (Or.inl ⟨by rfl, fun w hSw => ?_⟩) ?_
    rotate_left
    · skip
      first | (go_simp; done) | (go_simp; with_reducible rfl)
    simp only [Nat.reduceAdd, AP]
  refine anyG_done (by kernel_rfl) (fun w6 hS _ => ?_) _
  obtain ⟨hpS, hS⟩ := hS
  clear HG
  have PT := Lib.hid (PT.out.pure hpS)
  clear hS hpS
  go_wp2_with fail
  refine (HV2.out _).mono ?_
  rintro e w7 ⟨rfl, t7⟩
  have PT := Lib.hid (PT.out.pure t7)
  clear t7
  clear ex1 ex2 ex3 ex4 q1 q2 q3 q4 q5 q6 u1 u2 u3 d4 d4n d5
  by_cases a5 : a = 500
  · have e1 : (a == 500) = true := by simp [a5]
    have HR : Hid (R = 600) := Lib.hid (by rw [HR.out, if_pos (Or.inl a5)])
    clear a5
    go_wp2
    go_ret
    exact ⟨by rw [HR.out]; rfl, PT.out⟩
  · have e1 : (a == 500) = false := by simp [a5]
    by_cases b5 : b = 500
    · have e2 : (b == 500) = true := by simp [b5]
      have HR : Hid (R = 600) := Lib.hid (by rw [HR.out, if_pos (Or.inr b5)])
      clear a5 b5
      go_wp2
      go_ret
      exact ⟨by rw [HR.out]; rfl, PT.out⟩
    · have e2 : (b == 500) = false := by simp [b5]
      by_cases a0 : a = 0
      · have e3 : (a != 0) = false := by simp [a0]
        by_cases b0 : b = 0
        · have e4 : (b != 0) = false := by simp [b0]
          have HR : Hid (R = 0) := Lib.hid (by rw [HR.out, if_neg (fun h => h.elim a5 b5), if_neg (fun h => h.elim (absurd a0) (absurd b0))])
          clear a5 b5 a0 b0
          go_wp2
          go_ret
          exact ⟨by rw [HR.out]; rfl, PT.out⟩
        · have e4 : (b != 0) = true := by simp [b0]
          have HR : Hid (R = 602) := Lib.hid (by rw [HR.out, if_neg (fun h => h.elim a5 b5), if_pos (Or.inr b0)])
          clear a5 b5 a0 b0
          go_wp2
          go_ret
          exact ⟨by rw [HR.out]; rfl, PT.out⟩
      · have e3 : (a != 0) = true := by simp [a0]
        have HR : Hid (R = 602) := Lib.hid (by rw [HR.out, if_neg (fun h => h.elim a5 b5), if_pos (Or.inl a0)])
        clear a5 b5 a0
        go_wp2
        go_ret
        exact ⟨by rw [HR.out]; rfl, PT.out⟩
end Go.Proofs.Ytcfbmbhkdicpfaa
