/- Chapter 6: signatures are taken apart and asked. -/
import Derived.Test.YtcfbmbhkdicpfaaHss1
import Derived.Test.YtcfbmbhkdicpfaaRowN
namespace Go.Proofs.Ytcfbmbhkdicpfaa
open Go.RowKit
set_option maxRecDepth 100000

/-- Is it a signature's form? -/
def hapartP (pub sign : List UInt8) : Prop := pub.length = 60 ∧ pub.take 4 = beB 2 4 ∧ 4 ≤ sign.length ∧ sign.take 4 = beB 1 4 ∧ (apartV (pub.drop 4)).2 = true ∧ pkSize (apartV (pub.drop 4)).1 + 60 ≤ sign.length ∧ (apartV ((sign.drop (4 + pkSize (apartV (pub.drop 4)).1)).take 56)).2 = true
instance (pub sign : List UInt8) : Decidable (hapartP pub sign) := by unfold hapartP; infer_instance
theorem hverifyV_is (pub msg sign : List UInt8) : hverifyV pub msg sign = if hapartP pub sign then
    hbothV (verifyV (pub.drop 4) ((sign.drop (4 + pkSize (apartV (pub.drop 4)).1)).take 56) ((sign.drop 4).take (pkSize (apartV (pub.drop 4)).1)))
      (verifyV ((sign.drop (4 + pkSize (apartV (pub.drop 4)).1)).take 56) msg (sign.drop (60 + pkSize (apartV (pub.drop 4)).1)))
    else 600 := rfl
/-- The steps of a signature, as they lie. -/
def stepsAt (w : World) (V : Value) (pub msg sign : List UInt8) : Prop :=
  ∃ g, V = .slice (some ⟨g, 0, none⟩) 2 2 ∧ w.heap[g]? = some (.cells [Value.string (bstr (pub.drop 4)), .string (bstr ((sign.drop (4 + pkSize (apartV (pub.drop 4)).1)).take 56)), .string (bstr ((sign.drop 4).take (pkSize (apartV (pub.drop 4)).1))),
    .string (bstr ((sign.drop (4 + pkSize (apartV (pub.drop 4)).1)).take 56)), .string (bstr msg), .string (bstr (sign.drop (60 + pkSize (apartV (pub.drop 4)).1)))].toArray 83 (0, 0))
theorem pkSize_le (k : PKey) (h : k.height ≤ 5) : 8 ≤ pkSize k ∧ pkSize k ≤ 3000 := by
  have := parV_le k.ots
  unfold pkSize
  omega
theorem apartV_height (s : List UInt8) : (apartV s).1.height ≤ 5 := by
  unfold apartV
  split
  · exact hgtV_le _
  · exact Nat.zero_le _
theorem infoST : (Try.prog.info? 83).map (fun i => (i.zero, i.size)) = some (some (.agg #[.string ⟨#[]⟩, .string ⟨#[]⟩, .string ⟨#[]⟩]), 3) := by kernel_rfl
theorem stParts : ∃ i, Hid (Try.prog.info? 83 = some i) ∧ i.zero = some (.agg #[.string ⟨#[]⟩, .string ⟨#[]⟩, .string ⟨#[]⟩]) ∧ i.size = 3 := by
  have h := infoST
  cases hi : Try.prog.info? 83 with
  | none => rw [hi] at h; simp at h
  | some i =>
    rw [hi] at h
    simp only [Option.map_some, Option.some.injEq, Prod.mk.injEq] at h
    exact ⟨i, Lib.hid rfl, h.1, h.2⟩

set_option maxHeartbeats 8000000 in
theorem hapart_any (w : World) (pub msg sign : List UInt8) (hp : pub.length ≤ 140737488351232) (hs : sign.length ≤ 140737488351232) : Calls Try.prog 43 #[.string (bstr pub), .string (bstr msg), .string (bstr sign)] w fun e w' =>
    ∃ V b, e = .returned (.tuple #[V, .bool b]) ∧ (b = true ↔ hapartP pub sign) ∧ (b = true → stepsAt w' V pub msg sign) ∧ Pure w w' := by
  have hn1 := fun W => hnum_any W 1 (by omega)
  have hn2 := fun W => hnum_any W 2 (by omega)
  have HN1 := Lib.hid hn1; have HN2 := Lib.hid hn2
  clear hn1 hn2
  have zp := bstr_size pub
  have zs := bstr_size sign
  obtain ⟨P4, hP4⟩ : ∃ P4, P4 = pub.take 4 := ⟨_, rfl⟩
  obtain ⟨S4, hS4⟩ : ∃ S4, S4 = sign.take 4 := ⟨_, rfl⟩
  have ex1 : (bstr pub).extract 0 4 = bstr P4 := by rw [bstr_ext, hP4, List.drop_zero]
  have ex2 : (bstr sign).extract 0 4 = bstr S4 := by rw [bstr_ext, hS4, List.drop_zero]
  obtain ⟨np, hnp⟩ : ∃ np, np = pub.length := ⟨_, rfl⟩
  obtain ⟨ns, hns⟩ : ∃ ns, ns = sign.length := ⟨_, rfl⟩
  rw [← hnp] at zp hp
  rw [← hns] at zs hs
  by_cases h1 : np = 60
  case neg =>
    have d1 : ((np : Int) != 60) = true := by simp; omega
    have HH : Hid (¬ hapartP pub sign) := Lib.hid (fun h => h1 (hnp.trans h.1))
    have PT := Lib.hid (Turn.refl (fun _ => False) w)
    clear hP4 hS4 hnp hns hp hs
    go_enter Try.func43, Try.ntmps43
    go_wp2_with fail
    refine wp_region_G (S := fun w' => Pure w w' ∧ Held [] w') (T := fun _ _ _ => True) (by kernel_rfl) ⟨(Turn.refl _ _).drew, held_nil _⟩ trivial ?_
    have HG := Grow.held w []
    refine atN 0 ?_
    iterate 20
      first
      | refine anyG_y HG (v := undef) rfl (by kernel_rfl) (fun _ _ _ h => h) (fun _ _ _ => Iff.rfl) (Or.inr ⟨by rfl, rfl⟩) ?_
      | refine anyG_y HG (v := ?_) rfl (by kernel_rfl) (fun _ _ _ h => h) (fun _ _ _ => Iff.rfl) (Or.inl ⟨by rfl, fun w hSw => ?_⟩) ?_
        rotate_left
        · skip
          first | (go_simp; done) | (go_simp; with_reducible rfl)
      simp only [Nat.reduceAdd, AP]
    refine anyG_done (by kernel_rfl) (fun w1 hS _ => ?_) _
    obtain ⟨hpS, hS⟩ := hS
    clear HG
    have PT := Lib.hid (PT.out.pure hpS)
    clear hS hpS
    go_wp2
    go_ret2
    exact ⟨_, false, rfl, ⟨fun e => (nomatch e), fun e => absurd e HH.out⟩, fun e => (nomatch e), PT.out⟩
  subst h1
  have hbl2 := beB_length 2 4
  have hbl1 := beB_length 1 4
  have H2 : Hid (pub.take 4 = beB 2 4 ↔ P4 = beB 2 4) := Lib.hid (by rw [hP4])
  have H1 : Hid (sign.take 4 = beB 1 4 ↔ S4 = beB 1 4) := Lib.hid (by rw [hS4])
  obtain ⟨b2, hb2⟩ : ∃ b2, b2 = beB 2 4 := ⟨_, rfl⟩
  obtain ⟨b1, hb1⟩ : ∃ b1, b1 = beB 1 4 := ⟨_, rfl⟩
  rw [← hb2] at HN2 H2
  rw [← hb1] at HN1 H1
  have HB := Lib.hid (And.intro hb1 hb2)
  have HPS := Lib.hid (And.intro hnp hns)
  clear hb1 hb2 hbl1 hbl2
  by_cases h2 : P4 = b2
  case neg =>
    have d2 : (P4 == b2) = false := by simpa using h2
    have HH : Hid (¬ hapartP pub sign) := Lib.hid (fun h => h2 (H2.out.1 (h.2.1.trans HB.out.2.symm)))
    have PT := Lib.hid (Turn.refl (fun _ => False) w)
    clear hP4 hS4 hnp hns hp hs
    go_enter Try.func43, Try.ntmps43
    go_wp2_with fail
    refine wp_region_G (S := fun w' => Pure w w' ∧ Held [] w') (T := fun _ _ _ => True) (by kernel_rfl) ⟨(Turn.refl _ _).drew, held_nil _⟩ trivial ?_
    have HG := Grow.held w []
    refine atN 0 ?_
    iterate 6
      first
      | refine anyG_y HG (v := undef) rfl (by kernel_rfl) (fun _ _ _ h => h) (fun _ _ _ => Iff.rfl) (Or.inr ⟨by rfl, rfl⟩) ?_
      | refine anyG_y HG (v := ?_) rfl (by kernel_rfl) (fun _ _ _ h => h) (fun _ _ _ => Iff.rfl) (Or.inl ⟨by rfl, fun w hSw => ?_⟩) ?_
        rotate_left
        · skip
          first | (go_simp; done) | (go_simp; with_reducible rfl)
      simp only [Nat.reduceAdd, AP]
    refine anyG_c HG (fun w hSw => HN2.out w) rfl (by kernel_rfl) (fun _ _ _ h => h) (fun _ _ _ => Iff.rfl) (by rfl) (fun w hSw => by go_simp; first | done | with_reducible rfl) ?_
    simp only [Nat.reduceAdd, AP]
    iterate 13
      first
      | refine anyG_y HG (v := undef) rfl (by kernel_rfl) (fun _ _ _ h => h) (fun _ _ _ => Iff.rfl) (Or.inr ⟨by rfl, rfl⟩) ?_
      | refine anyG_y HG (v := ?_) rfl (by kernel_rfl) (fun _ _ _ h => h) (fun _ _ _ => Iff.rfl) (Or.inl ⟨by rfl, fun w hSw => ?_⟩) ?_
        rotate_left
        · skip
          first | (go_simp; done) | (go_simp; with_reducible rfl)
      simp only [Nat.reduceAdd, AP]
    refine anyG_done (by kernel_rfl) (fun w1 hS _ => ?_) _
    obtain ⟨hpS, hS⟩ := hS
    clear HG
    have PT := Lib.hid (PT.out.pure hpS)
    clear hS hpS
    go_wp2
    go_ret2
    exact ⟨_, false, rfl, ⟨fun e => (nomatch e), fun e => absurd e HH.out⟩, fun e => (nomatch e), PT.out⟩
  have d2 : (P4 == b2) = true := by simpa using h2
  by_cases h3 : 4 ≤ ns
  case neg =>
    have d3 : decide ((ns : Int) < 4) = true := decide_eq_true (by omega)
    have HH : Hid (¬ hapartP pub sign) := Lib.hid (fun h => h3 (by have := h.2.2.1; have := HPS.out.2; omega))
    have PT := Lib.hid (Turn.refl (fun _ => False) w)
    clear hP4 hS4 hnp hns hp hs
    go_enter Try.func43, Try.ntmps43
    go_wp2_with fail
    refine wp_region_G (S := fun w' => Pure w w' ∧ Held [] w') (T := fun _ _ _ => True) (by kernel_rfl) ⟨(Turn.refl _ _).drew, held_nil _⟩ trivial ?_
    have HG := Grow.held w []
    refine atN 0 ?_
    iterate 6
      first
      | refine anyG_y HG (v := undef) rfl (by kernel_rfl) (fun _ _ _ h => h) (fun _ _ _ => Iff.rfl) (Or.inr ⟨by rfl, rfl⟩) ?_
      | refine anyG_y HG (v := ?_) rfl (by kernel_rfl) (fun _ _ _ h => h) (fun _ _ _ => Iff.rfl) (Or.inl ⟨by rfl, fun w hSw => ?_⟩) ?_
        rotate_left
        · skip
          first | (go_simp; done) | (go_simp; with_reducible rfl)
      simp only [Nat.reduceAdd, AP]
    refine anyG_c HG (fun w hSw => HN2.out w) rfl (by kernel_rfl) (fun _ _ _ h => h) (fun _ _ _ => Iff.rfl) (by rfl) (fun w hSw => by go_simp; first | done | with_reducible rfl) ?_
    simp only [Nat.reduceAdd, AP]
    iterate 13
      first
      | refine anyG_y HG (v := undef) rfl (by kernel_rfl) (fun _ _ _ h => h) (fun _ _ _ => Iff.rfl) (Or.inr ⟨by rfl, rfl⟩) ?_
      | refine anyG_y HG (v := ?_) rfl (by kernel_rfl) (fun _ _ _ h => h) (fun _ _ _ => Iff.rfl) (Or.inl ⟨by rfl, fun w hSw => ?_⟩) ?_
        rotate_left
        · skip
          first | (go_simp; done) | (go_simp; with_reducible rfl)
      simp only [Nat.reduceAdd, AP]
    refine anyG_done (by kernel_rfl) (fun w1 hS _ => ?_) _
    obtain ⟨hpS, hS⟩ := hS
    clear HG
    have PT := Lib.hid (PT.out.pure hpS)
    clear hS hpS
    go_wp2
    go_ret2
    exact ⟨_, false, rfl, ⟨fun e => (nomatch e), fun e => absurd e HH.out⟩, fun e => (nomatch e), PT.out⟩
  have d3 : decide ((ns : Int) < 4) = false := decide_eq_false (by omega)
  have q4 : (4 : Int) ≤ (ns : Int) := by omega
  by_cases h4 : S4 = b1
  case neg =>
    have d4 : (S4 == b1) = false := by simpa using h4
    have HH : Hid (¬ hapartP pub sign) := Lib.hid (fun h => h4 (H1.out.1 (h.2.2.2.1.trans HB.out.1.symm)))
    have PT := Lib.hid (Turn.refl (fun _ => False) w)
    clear hP4 hS4 hnp hns hp hs
    go_enter Try.func43, Try.ntmps43
    go_wp2_with fail
    refine wp_region_G (S := fun w' => Pure w w' ∧ Held [] w') (T := fun _ _ _ => True) (by kernel_rfl) ⟨(Turn.refl _ _).drew, held_nil _⟩ trivial ?_
    have HG := Grow.held w []
    refine atN 0 ?_
    iterate 6
      first
      | refine anyG_y HG (v := undef) rfl (by kernel_rfl) (fun _ _ _ h => h) (fun _ _ _ => Iff.rfl) (Or.inr ⟨by rfl, rfl⟩) ?_
      | refine anyG_y HG (v := ?_) rfl (by kernel_rfl) (fun _ _ _ h => h) (fun _ _ _ => Iff.rfl) (Or.inl ⟨by rfl, fun w hSw => ?_⟩) ?_
        rotate_left
        · skip
          first | (go_simp; done) | (go_simp; with_reducible rfl)
      simp only [Nat.reduceAdd, AP]
    refine anyG_c HG (fun w hSw => HN2.out w) rfl (by kernel_rfl) (fun _ _ _ h => h) (fun _ _ _ => Iff.rfl) (by rfl) (fun w hSw => by go_simp; first | done | with_reducible rfl) ?_
    simp only [Nat.reduceAdd, AP]
    iterate 10
      first
      | refine anyG_y HG (v := undef) rfl (by kernel_rfl) (fun _ _ _ h => h) (fun _ _ _ => Iff.rfl) (Or.inr ⟨by rfl, rfl⟩) ?_
      | refine anyG_y HG (v := ?_) rfl (by kernel_rfl) (fun _ _ _ h => h) (fun _ _ _ => Iff.rfl) (Or.inl ⟨by rfl, fun w hSw => ?_⟩) ?_
        rotate_left
        · skip
          first | (go_simp; done) | (go_simp; with_reducible rfl)
      simp only [Nat.reduceAdd, AP]
    refine anyG_c HG (fun w hSw => HN1.out w) rfl (by kernel_rfl) (fun _ _ _ h => h) (fun _ _ _ => Iff.rfl) (by rfl) (fun w hSw => by go_simp; first | done | with_reducible rfl) ?_
    simp only [Nat.reduceAdd, AP]
    iterate 2
      refine anyG_y HG (v := ?_) rfl (by kernel_rfl) (fun _ _ _ h => h) (fun _ _ _ => Iff.rfl) (Or.inl ⟨by rfl, fun w hSw => ?_⟩) ?_
      rotate_left
      · skip
        first | (go_simp; done) | (go_simp; with_reducible rfl)
      simp only [Nat.reduceAdd, AP]
    refine anyG_done (by kernel_rfl) (fun w1 hS _ => ?_) _
    obtain ⟨hpS, hS⟩ := hS
    clear HG
    have PT := Lib.hid (PT.out.pure hpS)
    clear hS hpS
    go_wp2
    go_ret2
    exact ⟨_, false, rfl, ⟨fun e => (nomatch e), fun e => absurd e HH.out⟩, fun e => (nomatch e), PT.out⟩
  have d4 : (S4 == b1) = true := by simpa using h4
  obtain ⟨top, htop⟩ : ∃ top, top = pub.drop 4 := ⟨_, rfl⟩
  obtain ⟨rs, hrs⟩ : ∃ rs, rs = sign.drop 4 := ⟨_, rfl⟩
  have hdr : ∀ j, sign.drop (4 + j) = rs.drop j := fun j => by rw [hrs, List.drop_drop]
  have hdr2 : ∀ j, sign.drop (60 + j) = rs.drop (j + 56) := fun j => by rw [hrs, List.drop_drop]; congr 1; omega
  have ex3 : (bstr pub).extract 4 60 = bstr top := by rw [bstr_ext, htop, List.take_of_length_le (by omega)]
  have ex4 : (bstr sign).extract 4 ns = bstr rs := by rw [bstr_ext, hrs, List.take_of_length_le (by omega)]
  obtain ⟨nr, hnr⟩ : ∃ nr, nr = ns - 4 := ⟨_, rfl⟩
  have hrl : rs.length = nr := by rw [hrs, List.length_drop, ← hns, hnr]
  have zr : (bstr rs).size = nr := by rw [bstr_size, hrl]
  have htl : top.length = 56 := by rw [htop, List.length_drop, ← hnp]
  have hst : ∀ W V, (∃ g, V = .slice (some ⟨g, 0, none⟩) 2 2 ∧ W.heap[g]? = some (.cells [Value.string (bstr top), .string (bstr ((rs.drop (pkSize (apartV top).1)).take 56)), .string (bstr (rs.take (pkSize (apartV top).1))), .string (bstr ((rs.drop (pkSize (apartV top).1)).take 56)), .string (bstr msg), .string (bstr (rs.drop (pkSize (apartV top).1 + 56)))].toArray 83 (0, 0))) → stepsAt W V pub msg sign := fun W V h => by
    unfold stepsAt
    rw [← htop, ← hrs, hdr, hdr2]
    exact h
  have hcond : hapartP pub sign ↔ ((apartV top).2 = true ∧ pkSize (apartV top).1 + 56 ≤ nr ∧ (apartV ((rs.drop (pkSize (apartV top).1)).take 56)).2 = true) := by
    unfold hapartP
    rw [← htop, hdr, ← hns, ← hP4, ← hS4, h2, h4, ← HB.out.1, ← HB.out.2]
    constructor
    · rintro ⟨_, _, _, _, e1, e2, e3⟩; exact ⟨e1, by omega, e3⟩
    · rintro ⟨e1, e2, e3⟩; exact ⟨hnp.symm, rfl, h3, rfl, e1, by omega, e3⟩
  have hap := fun W => Apart_any W top (by omega)
  have hkh := apartV_height top
  have hks := fun W => KeySize_any W (apartV top).1 hkh
  have hkl := pkSize_le (apartV top).1 hkh
  have hC1 := pkC_one (apartV top).1
  have hCl : (pkC (apartV top).1).length = 4 := rfl
  generalize apartV top = AT at *
  obtain ⟨K, I1⟩ := AT
  simp only at hap hkh hks hkl hC1 hCl hst hcond
  obtain ⟨Z, hZ⟩ : ∃ Z, Z = pkSize K := ⟨_, rfl⟩
  rw [← hZ] at hks hkl hst hcond
  generalize pkC K = C at *
  have HCI : Hid ((Try.prog.info? 88).map (·.size) = some C.length) := Lib.hid (by rw [hCl]; exact infoPK)
  have HCZ : Hid ((pkC PKey0).toArray.size = C.length) := Lib.hid (by rw [hCl]; rfl)
  have HC1 := Lib.hid hC1; have HAP := Lib.hid hap; have HKS := Lib.hid hks; have HST := Lib.hid hst; have HCO := Lib.hid hcond
  have i1 : IntKind.i64.wrap ((Z : Int) + 56) = ((Z + 56 : Nat) : Int) := by rw [IntWalk.i64_in _ (by omega)]; omega
  have i2 : wrap64 ((Z : Int) + 56) = ((Z + 56 : Nat) : Int) := by unfold wrap64; omega
  obtain ⟨Y, hY⟩ : ∃ Y, Y = Z + 56 := ⟨_, rfl⟩
  rw [← hY] at i1 i2
  have hYi : ((Z + 56 : Nat) : Int) = (Y : Int) := by rw [hY]
  have HYZ : Hid (Y = Z + 56 ∧ 8 ≤ Z ∧ Z ≤ 3000) := Lib.hid ⟨hY, hkl⟩
  have HNR : Hid (nr = ns - 4 ∧ nr ≤ 140737488351232 ∧ rs.length = nr) := Lib.hid ⟨hnr, by omega, hrl⟩
  clear hP4 hS4 h2 h4 hdr hdr2 hnp hns htop hrs hst hcond hap hks hkl hC1 hCl hZ hY hYi hnr hrl htl hkh H1 H2 hp h3
  have PT := Lib.hid (Turn.refl (fun _ => False) w)
  cases I1 with
  | false =>
    have HH : Hid (¬ hapartP pub sign) := Lib.hid (fun h => by have := (HCO.out.1 h).1; cases this)
    clear HCO HST
    go_enter Try.func43, Try.ntmps43
    go_wp2_with fail
    refine wp_region_G (S := fun w' => Pure w w' ∧ Held [] w') (T := fun _ _ _ => True) (by kernel_rfl) ⟨(Turn.refl _ _).drew, held_nil _⟩ trivial ?_
    have HG := Grow.held w []
    refine atN 0 ?_
    iterate 6
      first
      | refine anyG_y HG (v := undef) rfl (by kernel_rfl) (fun _ _ _ h => h) (fun _ _ _ => Iff.rfl) (Or.inr ⟨by rfl, rfl⟩) ?_
      | refine anyG_y HG (v := ?_) rfl (by kernel_rfl) (fun _ _ _ h => h) (fun _ _ _ => Iff.rfl) (Or.inl ⟨by rfl, fun w hSw => ?_⟩) ?_
        rotate_left
        · skip
          first | (go_simp; done) | (go_simp; with_reducible rfl)
      simp only [Nat.reduceAdd, AP]
    refine anyG_c HG (fun w hSw => HN2.out w) rfl (by kernel_rfl) (fun _ _ _ h => h) (fun _ _ _ => Iff.rfl) (by rfl) (fun w hSw => by go_simp; first | done | with_reducible rfl) ?_
    simp only [Nat.reduceAdd, AP]
    iterate 10
      first
      | refine anyG_y HG (v := undef) rfl (by kernel_rfl) (fun _ _ _ h => h) (fun _ _ _ => Iff.rfl) (Or.inr ⟨by rfl, rfl⟩) ?_
      | refine anyG_y HG (v := ?_) rfl (by kernel_rfl) (fun _ _ _ h => h) (fun _ _ _ => Iff.rfl) (Or.inl ⟨by rfl, fun w hSw => ?_⟩) ?_
        rotate_left
        · skip
          first | (go_simp; done) | (go_simp; with_reducible rfl)
      simp only [Nat.reduceAdd, AP]
    refine anyG_c HG (fun w hSw => HN1.out w) rfl (by kernel_rfl) (fun _ _ _ h => h) (fun _ _ _ => Iff.rfl) (by rfl) (fun w hSw => by go_simp; first | done | with_reducible rfl) ?_
    simp only [Nat.reduceAdd, AP]
    iterate 2
      refine anyG_y HG (v := ?_) rfl (by kernel_rfl) (fun _ _ _ h => h) (fun _ _ _ => Iff.rfl) (Or.inl ⟨by rfl, fun w hSw => ?_⟩) ?_
      rotate_left
      · skip
        first | (go_simp; done) | (go_simp; with_reducible rfl)
      simp only [Nat.reduceAdd, AP]
    refine anyG_done (by kernel_rfl) (fun w1 hS _ => ?_) _
    obtain ⟨hpS, hS⟩ := hS
    clear HG
    have PT := Lib.hid (PT.out.pure hpS)
    clear hS hpS
    go_wp2_with fail
    refine wp_region_G (S := fun w' => Pure w1 w' ∧ Held [] w') (T := fun _ _ _ => True) (by kernel_rfl) ⟨(Turn.refl _ _).drew, held_nil _⟩ trivial ?_
    have HG := Grow.held w1 []
    refine atN 0 ?_
    iterate 6
      refine anyG_y HG (v := ?_) rfl (by kernel_rfl) (fun _ _ _ h => h) (fun _ _ _ => Iff.rfl) (Or.inl ⟨by rfl, fun w hSw => ?_⟩) ?_
      rotate_left
      · skip
        first | (go_simp; done) | (go_simp; with_reducible rfl)
      simp only [Nat.reduceAdd, AP]
    refine anyG_done (by kernel_rfl) (fun w2 hS _ => ?_) _
    obtain ⟨hpS, hS⟩ := hS
    clear HG
    have PT := Lib.hid (PT.out.pure hpS)
    clear hS hpS
    go_wp2_with fail
    refine (HAP.out _).mono ?_
    rintro e w3 ⟨rfl, t3⟩
    have PT := Lib.hid (PT.out.pure t3)
    clear t3
    go_wp2_with (refine wpList_allocZ rfl 88 rfl _ zeroPK ?_)
    intro g10 w4 e4 c4 t4 s4
    have lg10 : w.heap.size ≤ g10 := by have := PT.out.size; omega
    clear e4 s4
    have D10 := Lib.hid c4
    have PT := Lib.hid (PT.out.pure t4)
    clear c4 t4
    go_wp2_with (refine wpList_store_blk rfl 88 _ _ rfl g10 _ C _ rfl rfl D10.out HCZ.out HCI.out HC1.out ?_)
    intro w5 d5 t5 _
    have D10 := Lib.hid d5; have PT := Lib.hid (PT.out.newer t5 lg10)
    clear d5 t5
    go_wp2
    go_ret2
    exact ⟨_, false, rfl, ⟨fun e => (nomatch e), fun e => absurd e HH.out⟩, fun e => (nomatch e), PT.out⟩
  | true =>
    by_cases h5 : Y ≤ nr
    case neg =>
      have HH : Hid (¬ hapartP pub sign) := Lib.hid (fun h => h5 (by have := (HCO.out.1 h).2.1; have := HYZ.out; omega))
      have d5 : decide ((nr : Int) < (Y : Int)) = true := decide_eq_true (by omega)
      clear HCO HST
      go_enter Try.func43, Try.ntmps43
      go_wp2_with fail
      refine wp_region_G (S := fun w' => Pure w w' ∧ Held [] w') (T := fun _ _ _ => True) (by kernel_rfl) ⟨(Turn.refl _ _).drew, held_nil _⟩ trivial ?_
      have HG := Grow.held w []
      refine atN 0 ?_
      iterate 6
        first
        | refine anyG_y HG (v := undef) rfl (by kernel_rfl) (fun _ _ _ h => h) (fun _ _ _ => Iff.rfl) (Or.inr ⟨by rfl, rfl⟩) ?_
        | refine anyG_y HG (v := ?_) rfl (by kernel_rfl) (fun _ _ _ h => h) (fun _ _ _ => Iff.rfl) (Or.inl ⟨by rfl, fun w hSw => ?_⟩) ?_
          rotate_left
          · skip
            first | (go_simp; done) | (go_simp; with_reducible rfl)
        simp only [Nat.reduceAdd, AP]
      refine anyG_c HG (fun w hSw => HN2.out w) rfl (by kernel_rfl) (fun _ _ _ h => h) (fun _ _ _ => Iff.rfl) (by rfl) (fun w hSw => by go_simp; first | done | with_reducible rfl) ?_
      simp only [Nat.reduceAdd, AP]
      iterate 10
        first
        | refine anyG_y HG (v := undef) rfl (by kernel_rfl) (fun _ _ _ h => h) (fun _ _ _ => Iff.rfl) (Or.inr ⟨by rfl, rfl⟩) ?_
        | refine anyG_y HG (v := ?_) rfl (by kernel_rfl) (fun _ _ _ h => h) (fun _ _ _ => Iff.rfl) (Or.inl ⟨by rfl, fun w hSw => ?_⟩) ?_
          rotate_left
          · skip
            first | (go_simp; done) | (go_simp; with_reducible rfl)
        simp only [Nat.reduceAdd, AP]
      refine anyG_c HG (fun w hSw => HN1.out w) rfl (by kernel_rfl) (fun _ _ _ h => h) (fun _ _ _ => Iff.rfl) (by rfl) (fun w hSw => by go_simp; first | done | with_reducible rfl) ?_
      simp only [Nat.reduceAdd, AP]
      iterate 2
        refine anyG_y HG (v := ?_) rfl (by kernel_rfl) (fun _ _ _ h => h) (fun _ _ _ => Iff.rfl) (Or.inl ⟨by rfl, fun w hSw => ?_⟩) ?_
        rotate_left
        · skip
          first | (go_simp; done) | (go_simp; with_reducible rfl)
        simp only [Nat.reduceAdd, AP]
      refine anyG_done (by kernel_rfl) (fun w1 hS _ => ?_) _
      obtain ⟨hpS, hS⟩ := hS
      clear HG
      have PT := Lib.hid (PT.out.pure hpS)
      clear hS hpS
      go_wp2_with fail
      refine wp_region_G (S := fun w' => Pure w1 w' ∧ Held [] w') (T := fun _ _ _ => True) (by kernel_rfl) ⟨(Turn.refl _ _).drew, held_nil _⟩ trivial ?_
      have HG := Grow.held w1 []
      refine atN 0 ?_
      iterate 6
        refine anyG_y HG (v := ?_) rfl (by kernel_rfl) (fun _ _ _ h => h) (fun _ _ _ => Iff.rfl) (Or.inl ⟨by rfl, fun w hSw => ?_⟩) ?_
        rotate_left
        · skip
          first | (go_simp; done) | (go_simp; with_reducible rfl)
        simp only [Nat.reduceAdd, AP]
      refine anyG_done (by kernel_rfl) (fun w2 hS _ => ?_) _
      obtain ⟨hpS, hS⟩ := hS
      clear HG
      have PT := Lib.hid (PT.out.pure hpS)
      clear hS hpS
      go_wp2_with fail
      refine (HAP.out _).mono ?_
      rintro e w3 ⟨rfl, t3⟩
      have PT := Lib.hid (PT.out.pure t3)
      clear t3
      go_wp2_with (refine wpList_allocZ rfl 88 rfl _ zeroPK ?_)
      intro g10 w4 e4 c4 t4 s4
      have lg10 : w.heap.size ≤ g10 := by have := PT.out.size; omega
      clear e4 s4
      have D10 := Lib.hid c4
      have PT := Lib.hid (PT.out.pure t4)
      clear c4 t4
      go_wp2_with (refine wpList_store_blk rfl 88 _ _ rfl g10 _ C _ rfl rfl D10.out HCZ.out HCI.out HC1.out ?_)
      intro w5 d5 t5 _
      have D10 := Lib.hid d5; have PT := Lib.hid (PT.out.newer t5 lg10)
      clear d5 t5
      have R1 := range_of_row D10.out
      go_wp2_with (refine wpList_load_midX (by rfl) 88 _ rfl g10 0 rfl C _ R1 Try.underlying88 rfl HCI.out ?_)
      clear R1
      refine (HKS.out _).mono ?_
      rintro e w6 ⟨rfl, t6⟩
      have D10 := Lib.hid (t6.obj D10.out (fun e => e)); have PT := Lib.hid (PT.out.pure t6)
      clear t6
      go_wp2
      go_ret2
      exact ⟨_, false, rfl, ⟨fun e => (nomatch e), fun e => absurd e HH.out⟩, fun e => (nomatch e), PT.out⟩
    have d5 : decide ((nr : Int) < (Y : Int)) = false := decide_eq_false (by omega)
    obtain ⟨low, hlow⟩ : ∃ low, low = (rs.drop Z).take 56 := ⟨_, rfl⟩
    obtain ⟨sg1, hsg1⟩ : ∃ sg1, sg1 = rs.take Z := ⟨_, rfl⟩
    obtain ⟨sg2, hsg2⟩ : ∃ sg2, sg2 = rs.drop (Z + 56) := ⟨_, rfl⟩
    have hyz := HYZ.out
    have hnr := HNR.out
    have ey1 : (bstr rs).extract Z Y = bstr low := by rw [bstr_ext, hlow, List.drop_take, hyz.1]; congr 2; omega
    have ey2 : (bstr rs).extract 0 Z = bstr sg1 := by rw [bstr_ext, hsg1, List.drop_zero]
    have ey3 : (bstr rs).extract Y nr = bstr sg2 := by rw [bstr_ext, hsg2, List.take_of_length_le (by omega), hyz.1]
    have hla := fun W => Apart_any W low (by rw [hlow, List.length_take]; omega)
    have qa1 : (0 : Int) ≤ (Z : Int) := by omega
    have qa2 : (Z : Int) ≤ (Y : Int) := by omega
    have qa3 : (Y : Int) ≤ (nr : Int) := by omega
    have qa4 : (Z : Int) ≤ (nr : Int) := by omega
    have qa5 : (0 : Int) ≤ (Y : Int) := by omega
    have hco := HCO.out
    rw [← hlow] at hco
    have hst := HST.out
    rw [← hlow, ← hsg1, ← hsg2] at hst
    have HST2 := Lib.hid hst; have HLA := Lib.hid hla
    have hco2 : hapartP pub sign ↔ (apartV low).2 = true := ⟨fun h => (hco.1 h).2.2, fun h => hco.2 ⟨rfl, by omega, h⟩⟩
    have HC2 := Lib.hid hco2
    clear HST HCO
    generalize apartV low = AL at *
    obtain ⟨K2, I2⟩ := AL
    simp only at HLA HC2
    clear hlow hsg1 hsg2 hla hco hco2 hst hyz hnr h5 HYZ
    obtain ⟨ie, hie, hz1, hz2⟩ := stParts
    go_enter Try.func43, Try.ntmps43
    go_wp2_with fail
    refine wp_region_G (S := fun w' => Pure w w' ∧ Held [] w') (T := fun _ _ _ => True) (by kernel_rfl) ⟨(Turn.refl _ _).drew, held_nil _⟩ trivial ?_
    have HG := Grow.held w []
    refine atN 0 ?_
    iterate 6
      first
      | refine anyG_y HG (v := undef) rfl (by kernel_rfl) (fun _ _ _ h => h) (fun _ _ _ => Iff.rfl) (Or.inr ⟨by rfl, rfl⟩) ?_
      | refine anyG_y HG (v := ?_) rfl (by kernel_rfl) (fun _ _ _ h => h) (fun _ _ _ => Iff.rfl) (Or.inl ⟨by rfl, fun w hSw => ?_⟩) ?_
        rotate_left
        · skip
          first | (go_simp; done) | (go_simp; with_reducible rfl)
      simp only [Nat.reduceAdd, AP]
    refine anyG_c HG (fun w hSw => HN2.out w) rfl (by kernel_rfl) (fun _ _ _ h => h) (fun _ _ _ => Iff.rfl) (by rfl) (fun w hSw => by go_simp; first | done | with_reducible rfl) ?_
    simp only [Nat.reduceAdd, AP]
    iterate 10
      first
      | refine anyG_y HG (v := undef) rfl (by kernel_rfl) (fun _ _ _ h => h) (fun _ _ _ => Iff.rfl) (Or.inr ⟨by rfl, rfl⟩) ?_
      | refine anyG_y HG (v := ?_) rfl (by kernel_rfl) (fun _ _ _ h => h) (fun _ _ _ => Iff.rfl) (Or.inl ⟨by rfl, fun w hSw => ?_⟩) ?_
        rotate_left
        · skip
          first | (go_simp; done) | (go_simp; with_reducible rfl)
      simp only [Nat.reduceAdd, AP]
    refine anyG_c HG (fun w hSw => HN1.out w) rfl (by kernel_rfl) (fun _ _ _ h => h) (fun _ _ _ => Iff.rfl) (by rfl) (fun w hSw => by go_simp; first | done | with_reducible rfl) ?_
    simp only [Nat.reduceAdd, AP]
    iterate 2
      refine anyG_y HG (v := ?_) rfl (by kernel_rfl) (fun _ _ _ h => h) (fun _ _ _ => Iff.rfl) (Or.inl ⟨by rfl, fun w hSw => ?_⟩) ?_
      rotate_left
      · skip
        first | (go_simp; done) | (go_simp; with_reducible rfl)
      simp only [Nat.reduceAdd, AP]
    refine anyG_done (by kernel_rfl) (fun w1 hS _ => ?_) _
    obtain ⟨hpS, hS⟩ := hS
    clear HG
    have PT := Lib.hid (PT.out.pure hpS)
    clear hS hpS
    go_wp2_with fail
    refine wp_region_G (S := fun w' => Pure w1 w' ∧ Held [] w') (T := fun _ _ _ => True) (by kernel_rfl) ⟨(Turn.refl _ _).drew, held_nil _⟩ trivial ?_
    have HG := Grow.held w1 []
    refine atN 0 ?_
    iterate 6
      refine anyG_y HG (v := ?_) rfl (by kernel_rfl) (fun _ _ _ h => h) (fun _ _ _ => Iff.rfl) (Or.inl ⟨by rfl, fun w hSw => ?_⟩) ?_
      rotate_left
      · skip
        first | (go_simp; done) | (go_simp; with_reducible rfl)
      simp only [Nat.reduceAdd, AP]
    refine anyG_done (by kernel_rfl) (fun w2 hS _ => ?_) _
    obtain ⟨hpS, hS⟩ := hS
    clear HG
    have PT := Lib.hid (PT.out.pure hpS)
    clear hS hpS
    go_wp2_with fail
    refine (HAP.out _).mono ?_
    rintro e w3 ⟨rfl, t3⟩
    have PT := Lib.hid (PT.out.pure t3)
    clear t3
    go_wp2_with (refine wpList_allocZ rfl 88 rfl _ zeroPK ?_)
    intro g10 w4 e4 c4 t4 s4
    have lg10 : w.heap.size ≤ g10 := by have := PT.out.size; omega
    clear e4 s4
    have D10 := Lib.hid c4
    have PT := Lib.hid (PT.out.pure t4)
    clear c4 t4
    go_wp2_with (refine wpList_store_blk rfl 88 _ _ rfl g10 _ C _ rfl rfl D10.out HCZ.out HCI.out HC1.out ?_)
    intro w5 d5 t5 _
    have D10 := Lib.hid d5; have PT := Lib.hid (PT.out.newer t5 lg10)
    clear d5 t5
    have R1 := range_of_row D10.out
    go_wp2_with (refine wpList_load_midX (by rfl) 88 _ rfl g10 0 rfl C _ R1 Try.underlying88 rfl HCI.out ?_)
    clear R1
    refine (HKS.out _).mono ?_
    rintro e w6 ⟨rfl, t6⟩
    have D10 := Lib.hid (t6.obj D10.out (fun e => e)); have PT := Lib.hid (PT.out.pure t6)
    clear t6
    go_wp2_with fail
    refine wp_region_G (S := fun w' => Pure w6 w' ∧ Held [(g10, Obj.cells C.toArray 88 (0, 0))] w') (T := fun _ _ _ => True) (by kernel_rfl) ⟨(Turn.refl _ _).drew, held_cons (show w6.drew.heap[_]? = _ from D10.out) (held_nil _)⟩ trivial ?_
    have HG := Grow.held w6 [(g10, Obj.cells C.toArray 88 (0, 0))]
    refine atN 0 ?_
    iterate 1
      refine anyG_y HG (v := ?_) rfl (by kernel_rfl) (fun _ _ _ h => h) (fun _ _ _ => Iff.rfl) (Or.inl ⟨by rfl, fun w hSw => ?_⟩) ?_
      rotate_left
      · skip
        first | (go_simp; done) | (go_simp; with_reducible rfl)
      simp only [Nat.reduceAdd, AP]
    refine anyG_take HG (i := 1) (v := Value.agg C.toArray) rfl (by kernel_rfl) (by kernel_rfl) (by kernel_rfl) (fun _ _ _ h => h) (fun _ _ _ => Iff.rfl) (yieldsIf_load_mid (by rfl) 88 _ rfl g10 0 rfl C _ (fun w hSw => range_of_row hSw.2.head) Try.underlying88 rfl HCI.out) ?_
    simp only [AP]
    refine anyG_call HG (i := 2) (fun w hSw => HKS.out w) rfl (by kernel_rfl) (by kernel_rfl) (by kernel_rfl) (fun _ _ _ h => h) (fun _ _ _ => Iff.rfl) (by rfl) (fun w hSw => by go_simp; first | done | with_reducible rfl) ?_
    simp only [AP]
    refine anyG_take HG (i := 3) (v := Value.agg C.toArray) rfl (by kernel_rfl) (by kernel_rfl) (by kernel_rfl) (fun _ _ _ h => h) (fun _ _ _ => Iff.rfl) (yieldsIf_load_mid (by rfl) 88 _ rfl g10 0 rfl C _ (fun w hSw => range_of_row hSw.2.head) Try.underlying88 rfl HCI.out) ?_
    simp only [AP]
    refine anyG_call HG (i := 4) (fun w hSw => HKS.out w) rfl (by kernel_rfl) (by kernel_rfl) (by kernel_rfl) (fun _ _ _ h => h) (fun _ _ _ => Iff.rfl) (by rfl) (fun w hSw => by go_simp; first | done | with_reducible rfl) ?_
    simp only [AP]
    refine atN 5 ?_
    iterate 3
      refine anyG_y HG (v := ?_) rfl (by kernel_rfl) (fun _ _ _ h => h) (fun _ _ _ => Iff.rfl) (Or.inl ⟨by rfl, fun w hSw => ?_⟩) ?_
      rotate_left
      · skip
        first | (go_simp; done) | (go_simp; with_reducible rfl)
      simp only [Nat.reduceAdd, AP]
    refine anyG_done (by kernel_rfl) (fun w7 hS _ => ?_) _
    obtain ⟨hpS, hS⟩ := hS
    clear HG
    have PT := Lib.hid (PT.out.pure hpS)
    have D10 := Lib.hid hS.head
    clear hS hpS
    go_wp2_with fail
    refine (HLA.out _).mono ?_
    rintro e w8 ⟨rfl, t8⟩
    have D10 := Lib.hid (t8.obj D10.out (fun e => e))
    have PT := Lib.hid (PT.out.pure t8)
    clear t8
    go_wp2_with fail
    refine wp_region_G (S := fun w' => Pure w8 w' ∧ Held [(g10, Obj.cells C.toArray 88 (0, 0))] w') (T := NewSlN 79 w8.heap.size 2 (Obj.cells ([Value.string (bstr top), .string (bstr low), .string (bstr sg1), .string (bstr low), .string (bstr msg), .string (bstr sg2)] : List Value).toArray 83 (0, 0))) (by kernel_rfl) ⟨(Turn.refl _ _).drew, held_cons (show w8.drew.heap[_]? = _ from D10.out) (held_nil _)⟩ (fun g h hB => nomatch h) ?_
    have HG := Grow.heldSlN w8 [(g10, Obj.cells C.toArray 88 (0, 0))] 79 w8.heap.size 2 (Obj.cells ([Value.string (bstr top), .string (bstr low), .string (bstr sg1), .string (bstr low), .string (bstr msg), .string (bstr sg2)] : List Value).toArray 83 (0, 0))
    refine atN 0 ?_
    iterate 3
      refine anyG_y HG (v := ?_) rfl (by kernel_rfl) (fun _ _ _ h => h) (NewSlN.ins (by decide)) (Or.inl ⟨by rfl, fun w hSw => ?_⟩) ?_
      rotate_left
      · skip
        first | (go_simp; done) | (go_simp; with_reducible rfl)
      simp only [Nat.reduceAdd, AP]
    refine anyG_take HG (i := 3) (v := Value.agg C.toArray) rfl (by kernel_rfl) (by kernel_rfl) (by kernel_rfl) (fun _ _ _ h => h) (NewSlN.ins (by decide)) (yieldsIf_load_mid (by rfl) 88 _ rfl g10 0 rfl C _ (fun w hSw => range_of_row hSw.2.head) Try.underlying88 rfl HCI.out) ?_
    simp only [AP]
    refine anyG_call HG (i := 4) (fun w hSw => HKS.out w) rfl (by kernel_rfl) (by kernel_rfl) (by kernel_rfl) (fun _ _ _ h => h) (NewSlN.ins (by decide)) (by rfl) (fun w hSw => by go_simp; first | done | with_reducible rfl) ?_
    simp only [AP]
    refine atN 5 ?_
    iterate 5
      refine anyG_y HG (v := ?_) rfl (by kernel_rfl) (fun _ _ _ h => h) (NewSlN.ins (by decide)) (Or.inl ⟨by rfl, fun w hSw => ?_⟩) ?_
      rotate_left
      · skip
        first | (go_simp; done) | (go_simp; with_reducible rfl)
      simp only [Nat.reduceAdd, AP]
    refine anyG_take HG (i := 10) (v := Value.agg C.toArray) rfl (by kernel_rfl) (by kernel_rfl) (by kernel_rfl) (fun _ _ _ h => h) (NewSlN.ins (by decide)) (yieldsIf_load_mid (by rfl) 88 _ rfl g10 0 rfl C _ (fun w hSw => range_of_row hSw.2.head) Try.underlying88 rfl HCI.out) ?_
    simp only [AP]
    refine anyG_call HG (i := 11) (fun w hSw => HKS.out w) rfl (by kernel_rfl) (by kernel_rfl) (by kernel_rfl) (fun _ _ _ h => h) (NewSlN.ins (by decide)) (by rfl) (fun w hSw => by go_simp; first | done | with_reducible rfl) ?_
    simp only [AP]
    refine atN 12 ?_
    iterate 3
      refine anyG_y HG (v := ?_) rfl (by kernel_rfl) (fun _ _ _ h => h) (NewSlN.ins (by decide)) (Or.inl ⟨by rfl, fun w hSw => ?_⟩) ?_
      rotate_left
      · skip
        first | (go_simp; done) | (go_simp; with_reducible rfl)
      simp only [Nat.reduceAdd, AP]
    refine anyG_take HG (i := 16) (v := ?_) rfl (by kernel_rfl) (by kernel_rfl) (by kernel_rfl) (fun _ _ _ h => h) (NewSlN.ins (by decide)) (Or.inl ⟨by rfl, fun w hSw => ?_⟩) ?_
    rotate_left
    · skip
      first | (go_simp; done) | (go_simp; with_reducible rfl)
    simp only [AP]
    refine anyG_row HG (i := 15) (by kernel_rfl) rfl (by rfl) rfl Try.underlying79 hie.out hz1 (by rw [hz2]; decide) (by rw [hz2]; decide) (by rw [hz2]; simp [Instr.fill, Act.eval, Value.cells, show Array.range 6 = #[0, 1, 2, 3, 4, 5] from rfl]) rfl (fun w h => h.1.size) (by simp) (fun gR lgR => ?_)
    simp only [Act.put, List.setIfInBounds_toArray, List.set_cons_zero, List.set_cons_succ]
    refine atN 17 ?_
    iterate 2
      refine anyG_y HG (v := ?_) rfl (by kernel_rfl) (fun _ _ _ h => h) (NewSlN.ins (by decide)) (Or.inl ⟨by rfl, fun w hSw => ?_⟩) ?_
      rotate_left
      · skip
        first | (go_simp; done) | (go_simp; with_reducible rfl)
      simp only [Nat.reduceAdd, AP]
    refine anyG_done (by kernel_rfl) (fun w9 hS hT => ?_) _
    obtain ⟨hpS, hS⟩ := hS
    clear HG
    have PT := Lib.hid (PT.out.pure hpS)
    have D10 := Lib.hid hS.head
    clear hS hpS
    have DR := Lib.hid (hT gR rfl lgR)
    clear hT
    go_wp2
    go_ret2
    exact ⟨_, I2, rfl, HC2.out.symm, fun _ => HST2.out _ _ ⟨gR, rfl, DR.out⟩, PT.out⟩
end Go.Proofs.Ytcfbmbhkdicpfaa
