/- Chapter 6: by the layer of trees: the walk of the law HssParts. -/
import Derived.Test.YtcfbmbhkdicpfaaHssL
namespace Go.Proofs.Ytcfbmbhkdicpfaa
open Go.RowKit
set_option maxRecDepth 100000

set_option maxHeartbeats 4000000 in
theorem hssParts_walk (seed : List UInt8) (x : Int) (msg : List UInt8) (w : World) (hs : seed.length ≤ 140737488351232) (hm0 : msg.length ≤ 140737488351232) :
    Calls Try.prog 6 #[.string (bstr seed), .int .i64 x, .string (bstr msg)] w fun e w' => e = .returned (.bool true) ∧ Pure w w' := by
  have zm := bstr_size msg
  obtain ⟨X, hX1, b, hX2, hb4⟩ : ∃ X : Nat, IntKind.u64.wrap x = (X : Int) ∧ ∃ b, X % 4 = b ∧ b < 4 := by
    refine ⟨(x % 18446744073709551616).toNat, ?_, _, rfl, Nat.mod_lt _ (by decide)⟩
    rw [IntKind.wrap_u64]; omega
  have hX4 : (X : Int) % 4 = (b : Int) := by omega
  have hX5 : (X : Int).tmod 4 = (b : Int) := by rw [Int.tmod_eq_emod_of_nonneg (by omega)]; exact hX4
  have HWI : Hid (IntKind.i64.wrap (b : Int) = (b : Int) ∧ IntKind.u64.wrap (b : Int) = (b : Int)) := Lib.hid ⟨IntWalk.i64_in _ (by omega), by rw [IntKind.wrap_u64]; omega⟩
  have hky := fun W => Key6_any W seed (b : Int) hs
  rw [keyB_nat b (by omega)] at hky
  have hpu := fun W => HPublic_any W (keyH seed b)
  have hsi := fun W => HSign_any W (keyH seed b) msg
  have PT := Lib.hid (Turn.refl (fun _ => False) w)
  have HKY := Lib.hid hky
  clear hky hX2
  by_cases hm : msg.length ≤ 65536
  case neg =>
    have q1 : (65536 : Int) < (msg.length : Int) := by omega
    rw [hsign_big _ hm] at hsi
    generalize keyH seed b = K at *
    generalize (hpubV K).1 = P at *
    generalize (hpubV K).2 = PE at *
    have HPU := Lib.hid hpu; have HSI := Lib.hid hsi
    clear hm hs hm0 hpu hsi
    obtain ⟨hwi, hwu⟩ := HWI.out
    go_enter Try.func6, Try.ntmps6
    go_wp2_with fail
    refine (awake6 _).mono ?_
    rintro e w1 ⟨rfl, t1⟩
    have PT := Lib.hid (PT.out.pure t1)
    clear t1
    go_wp2_with fail
    refine (HKY.out _).mono ?_
    rintro e w2 ⟨rfl, t2⟩
    have PT := Lib.hid (PT.out.pure t2)
    clear t2
    go_wp2_with (refine wpList_allocZ rfl 23 rfl _ zeroHKs ?_)
    intro g7 w3 e0 c0 t0 s0
    have l7 : w.heap.size ≤ g7 := by have := PT.out.size; omega
    clear e0 s0
    go_wp2_with (refine wpList_store_blk rfl 23 _ _ rfl g7 _ (lkC K) _ rfl rfl c0 rfl infoHK (lkC_one _) ?_)
    intro w4 d1 t1 s1
    clear s1
    have D7 := Lib.hid d1; have PT := Lib.hid ((PT.out.pure t0).newer t1 l7)
    clear c0 t0 d1 t1
    have R1 := range_of_row D7.out
    go_wp2_with (refine wpList_load_mid rfl 23 _ rfl g7 0 rfl (lkC K) _ R1 Try.underlying23 rfl infoHK ?_)
    clear R1
    refine (HPU.out _).mono ?_
    rintro e w5 ⟨rfl, t5⟩
    have D7 := Lib.hid (t5.obj D7.out (fun e => e))
    have PT := Lib.hid (PT.out.pure t5)
    clear t5
    have R1 := range_of_row D7.out
    go_wp2_with (refine wpList_load_mid rfl 23 _ rfl g7 0 rfl (lkC K) _ R1 Try.underlying23 rfl infoHK ?_)
    clear R1
    refine (HSI.out _).mono ?_
    rintro e w6 ⟨rfl, t6⟩
    have D7 := Lib.hid (t6.obj D7.out (fun e => e))
    have PT := Lib.hid (PT.out.pure t6)
    clear t6
    go_wp2_with (refine wpList_allocZ rfl 23 rfl _ zeroHKs ?_)
    intro g11 w7 e0 c0 t0 s0
    have l11 : w.heap.size ≤ g11 := by have := PT.out.size; omega
    have n7_11 : g7 ≠ g11 := by have := (Array.getElem?_eq_some_iff.1 D7.out).1; omega
    clear e0 s0
    go_wp2_with (refine wpList_store_blk rfl 23 _ _ rfl g11 _ (lkC LKey0) _ rfl rfl c0 rfl infoHK (lkC_one _) ?_)
    intro w8 d1 t1 s1
    clear s1
    have D7 := Lib.hid (t1.obj (t0.obj D7.out (fun e => e)) n7_11)
    have D11 := Lib.hid d1; have PT := Lib.hid ((PT.out.pure t0).newer t1 l11)
    clear c0 t0 d1 t1
    go_wp2_with (refine (Num9_any _ _).mono ?_; rintro e wn ⟨rfl, rfl⟩)
    go_ret
    exact ⟨rfl, PT.out⟩
  obtain ⟨P, L, t1, t2, hP, hPl, hLl, hk1, hk2, hS, hv1, hv2⟩ := keyH_sig seed hb4 hm
  have hpe := hpub_ok (keyH_may seed (Nat.le_of_lt hb4))
  have hcc : ∀ (W : World) (g : Nat), W.heap[g]? = some (.cells (lkC (keyH seed b)).toArray 23 (0, 0)) → W.cell? ⟨g, 4, none⟩ = some (.int .i64 (b : Int)) := fun W g h => (hk_cells h).2.2.2.2
  have hse := keyH_sign seed hb4 hm
  rw [hP, hpe] at hpu
  rw [hS, hse] at hsi
  generalize keyH seed (b + 1) = K2 at *
  generalize keyH seed b = K at *
  obtain ⟨u, hu⟩ : ∃ u, u = b / 2 := ⟨_, rfl⟩
  obtain ⟨v, hv⟩ : ∃ v, v = b % 2 := ⟨_, rfl⟩
  rw [← hu] at hsi hv1 hS
  rw [← hv] at hsi hv2 hS
  have j1 : (b : Int) / 2 = (u : Int) := by rw [hu]; rfl
  have j2 : (b : Int).tdiv 2 = (u : Int) := by rw [Int.tdiv_eq_ediv_of_nonneg (by omega)]; exact j1
  have j3 : (b : Int) % 2 = (v : Int) := by rw [hv]; rfl
  have j4 : (b : Int).tmod 2 = (v : Int) := by rw [Int.tmod_eq_emod_of_nonneg (by omega)]; exact j3
  have j5 : IntKind.i64.wrap (u : Int) = (u : Int) := IntWalk.i64_in _ (by omega)
  have j6 : IntKind.i64.wrap (v : Int) = (v : Int) := IntWalk.i64_in _ (by omega)
  have HJ := Lib.hid (And.intro j1 (And.intro j2 (And.intro j3 (And.intro j4 (And.intro j5 j6)))))
  have hu4 : u < 256 := by omega
  have hv4 : v < 256 := by omega
  obtain ⟨S1, hS1⟩ : ∃ S1, S1 = beB u 4 ++ t1 := ⟨_, rfl⟩
  obtain ⟨S2, hS2⟩ : ∃ S2, S2 = beB v 4 ++ t2 := ⟨_, rfl⟩
  have l1 : S1.length = 2220 := by rw [hS1, List.length_append, beB_length, hk1]
  have l2 : S2.length = 2220 := by rw [hS2, List.length_append, beB_length, hk2]
  rw [← hS1] at hsi hv1
  rw [← hS2] at hsi hv2
  obtain ⟨PB, hPB⟩ : ∃ PB, PB = beB 2 4 ++ P := ⟨_, rfl⟩
  obtain ⟨SB, hSB⟩ : ∃ SB, SB = beB 1 4 ++ (S1 ++ (L ++ S2)) := ⟨_, rfl⟩
  rw [← hPB] at hpu
  rw [← hSB] at hsi
  have lP : PB.length = 60 := by rw [hPB, List.length_append, beB_length, hPl]
  have lS : SB.length = 4500 := by rw [hSB]; simp only [List.length_append, beB_length, l1, l2, hLl]
  have zP : (bstr PB).size = 60 := by rw [bstr_size, lP]
  have zS : (bstr SB).size = 4500 := by rw [bstr_size, lS]
  have ex1 : (bstr PB).extract 4 60 = bstr P := by rw [bstr_ext, List.take_of_length_le (by omega), hPB]; rfl
  have ex2 : (bstr PB).extract 0 4 = bstr [0, 0, 0, 2] := by rw [bstr_ext, hPB]; rfl
  have ex3 : (bstr SB).extract 0 4 = bstr [0, 0, 0, 1] := by rw [bstr_ext, hSB]; rfl
  have dS : ∀ n, SB.drop (4 + n) = (S1 ++ (L ++ S2)).drop n := fun n => by rw [hSB]; exact drop_be 1 _ n
  have ex4 : (bstr SB).extract 4 2224 = bstr S1 := by
    rw [bstr_ext, List.drop_take]
    have := dS 0
    rw [this, List.drop_zero, List.take_append_of_le_length (by omega), List.take_of_length_le (by omega)]
  have ex5 : (bstr SB).extract 2224 2280 = bstr L := by
    rw [bstr_ext, List.drop_take]
    have := dS 2220
    rw [this, List.drop_append_of_le_length (by omega), List.drop_of_length_le (by omega), List.nil_append, List.take_append_of_le_length (by omega), List.take_of_length_le (by omega)]
  have d2 : SB.drop 2280 = S2 := by
    have := dS 2276
    rw [this, ← List.append_assoc, List.drop_append_of_le_length (by rw [List.length_append]; omega), List.drop_of_length_le (by rw [List.length_append]; omega), List.nil_append]
  have ex6 : (bstr SB).extract 2280 4500 = bstr S2 := by rw [bstr_ext, List.take_of_length_le (by omega), d2]
  have hi1 : ∀ W, (Instr.index 9 (.string (bstr SB)) (.int .i64 7)).run Try.prog W = .ok (.int .u8 (u : Int)) W := fun W => by
    rw [index_bstrH W _ 7 7 rfl (by omega)]
    have h7 : SB.getD 7 0 = UInt8.ofNat u := by rw [hSB, hS1]; simp [beB]
    rw [h7, UInt8.toNat_ofNat', Nat.mod_eq_of_lt hu4]
  have hi2 : ∀ W, (Instr.index 9 (.string (bstr SB)) (.int .i64 2283)).run Try.prog W = .ok (.int .u8 (v : Int)) W := fun W => by
    rw [index_bstrH W _ 2283 2283 rfl (by omega)]
    have h7 : SB.getD 2283 0 = UInt8.ofNat v := by
      have e : SB.getD 2283 0 = (SB.drop 2280).getD 3 0 := by simp [List.getD]
      rw [e, d2, hS2]
      simp [beB]
    rw [h7, UInt8.toNat_ofNat', Nat.mod_eq_of_lt hv4]
  have hw1 := fun W => LVerify_any W P L S1 (by omega) (by omega)
  have hw2 := fun W => LVerify_any W L msg S2 (by omega) (by omega)
  rw [hv1] at hw1
  rw [hv2] at hw2
  have HPU := Lib.hid hpu; have HSI := Lib.hid hsi; have HW1 := Lib.hid hw1; have HW2 := Lib.hid hw2; have HI1 := Lib.hid hi1; have HI2 := Lib.hid hi2; have HCC := Lib.hid hcc
  have HEX := Lib.hid (And.intro ex1 (And.intro ex2 (And.intro ex3 (And.intro ex4 (And.intro ex5 ex6)))))
  clear hpu hsi hw1 hw2 hi1 hi2 hcc hP hPl hLl hk1 hk2 hS hv1 hv2 hpe hse hu hv hu4 hv4 hS1 hS2 l1 l2 hPB hSB lP lS dS d2 ex1 ex2 ex3 ex4 ex5 ex6 j1 j2 j3 j4 j5 j6 hs hm hm0
  obtain ⟨hwi, hwu⟩ := HWI.out
  go_enter Try.func6, Try.ntmps6
  go_wp2_with fail
  refine (awake6 _).mono ?_
  rintro e w1 ⟨rfl, t1⟩
  have PT := Lib.hid (PT.out.pure t1)
  clear t1
  go_wp2_with fail
  refine (HKY.out _).mono ?_
  rintro e w2 ⟨rfl, t2⟩
  have PT := Lib.hid (PT.out.pure t2)
  clear t2
  go_wp2_with (refine wpList_allocZ rfl 23 rfl _ zeroHKs ?_)
  intro g7 w3 e0 c0 t0 s0
  have l7 : w.heap.size ≤ g7 := by have := PT.out.size; omega
  clear e0 s0
  go_wp2_with (refine wpList_store_blk rfl 23 _ _ rfl g7 _ (lkC K) _ rfl rfl c0 rfl infoHK (lkC_one _) ?_)
  intro w4 d1 t1 s1
  clear s1
  have D7 := Lib.hid d1; have PT := Lib.hid ((PT.out.pure t0).newer t1 l7)
  clear c0 t0 d1 t1
  have R1 := range_of_row D7.out
  go_wp2_with (refine wpList_load_mid rfl 23 _ rfl g7 0 rfl (lkC K) _ R1 Try.underlying23 rfl infoHK ?_)
  clear R1
  refine (HPU.out _).mono ?_
  rintro e w5 ⟨rfl, t5⟩
  have D7 := Lib.hid (t5.obj D7.out (fun e => e))
  have PT := Lib.hid (PT.out.pure t5)
  clear t5
  have R1 := range_of_row D7.out
  go_wp2_with (refine wpList_load_mid rfl 23 _ rfl g7 0 rfl (lkC K) _ R1 Try.underlying23 rfl infoHK ?_)
  clear R1
  refine (HSI.out _).mono ?_
  rintro e w6 ⟨rfl, t6⟩
  have D7 := Lib.hid (t6.obj D7.out (fun e => e))
  have PT := Lib.hid (PT.out.pure t6)
  clear t6
  go_wp2_with (refine wpList_allocZ rfl 23 rfl _ zeroHKs ?_)
  intro g11 w7 e0 c0 t0 s0
  have l11 : w.heap.size ≤ g11 := by have := PT.out.size; omega
  have n7_11 : g7 ≠ g11 := by have := (Array.getElem?_eq_some_iff.1 D7.out).1; omega
  clear e0 s0
  go_wp2_with (refine wpList_store_blk rfl 23 _ _ rfl g11 _ (lkC K2) _ rfl rfl c0 rfl infoHK (lkC_one _) ?_)
  intro w8 d1 t1 s1
  clear s1
  have D7 := Lib.hid (t1.obj (t0.obj D7.out (fun e => e)) n7_11)
  have D11 := Lib.hid d1; have PT := Lib.hid ((PT.out.pure t0).newer t1 l11)
  clear c0 t0 d1 t1
  obtain ⟨ex1, ex2, ex3, ex4, ex5, ex6⟩ := HEX.out
  clear hX1 hX4 hX5 hwi hwu D11
  go_wp2_with (refine (Num9_any _ _).mono ?_; rintro e wn ⟨rfl, rfl⟩)
  refine wp_region_G (S := fun w' => Pure wn w' ∧ Held [(g7, Obj.cells (lkC K).toArray 23 (0, 0))] w') (T := fun _ _ _ => True) (by kernel_rfl) ⟨(Turn.refl _ _).drew, held_cons (show wn.drew.heap[_]? = _ from D7.out) (held_nil _)⟩ trivial ?_
  have HG := Grow.held wn [(g7, Obj.cells (lkC K).toArray 23 (0, 0))]
  refine atN 0 ?_
  iterate 7
    refine anyG_y HG (v := ?_) rfl (by kernel_rfl) (fun _ _ _ h => h) (fun _ _ _ => Iff.rfl) (Or.inl ⟨by rfl, fun w hSw => ?_⟩) ?_
    rotate_left
    · skip
      have xw : IntKind.i64.wrap 2224 = 2224 := rfl
      first | (go_simp; done) | (go_simp; with_reducible rfl)
    simp only [Nat.reduceAdd, AP]
  refine anyG_c HG (fun w hSw => HW1.out w) rfl (by kernel_rfl) (fun _ _ _ h => h) (fun _ _ _ => Iff.rfl) (by rfl) (fun w hSw => by go_simp; first | done | with_reducible rfl) ?_
  simp only [Nat.reduceAdd, AP]
  iterate 1
    refine anyG_y HG (v := ?_) rfl (by kernel_rfl) (fun _ _ _ h => h) (fun _ _ _ => Iff.rfl) (Or.inl ⟨by rfl, fun w hSw => ?_⟩) ?_
    rotate_left
    · skip
      first | (go_simp; done) | (go_simp; with_reducible rfl)
    simp only [Nat.reduceAdd, AP]
  refine anyG_done (by kernel_rfl) (fun w9 hS _ => ?_) _
  obtain ⟨hpS, hS⟩ := hS
  clear HG
  have PT := Lib.hid (PT.out.pure hpS)
  have D7 := Lib.hid hS.head
  clear hS hpS
  go_wp2_with fail
  refine (HW2.out _).mono ?_
  rintro e w10 ⟨rfl, t10⟩
  have D7 := Lib.hid (t10.obj D7.out (fun e => e))
  have PT := Lib.hid (PT.out.pure t10)
  clear t10
  clear ex1 ex4 ex5 ex6
  go_wp2_with fail
  refine wp_region_G (S := fun w' => Pure w10 w' ∧ Held [(g7, Obj.cells (lkC K).toArray 23 (0, 0))] w') (T := fun _ _ _ => True) (by kernel_rfl) ⟨(Turn.refl _ _).drew, held_cons (show w10.drew.heap[_]? = _ from D7.out) (held_nil _)⟩ trivial ?_
  have HG := Grow.held w10 [(g7, Obj.cells (lkC K).toArray 23 (0, 0))]
  refine atN 0 ?_
  iterate 10
    refine anyG_y HG (v := ?_) rfl (by kernel_rfl) (fun _ _ _ h => h) (fun _ _ _ => Iff.rfl) (Or.inl ⟨by rfl, fun w hSw => ?_⟩) ?_
    rotate_left
    · skip
      first | (go_simp; done) | (go_simp; with_reducible rfl)
    simp only [Nat.reduceAdd, AP]
  refine anyG_c HG (fun w hSw => (Num9_any w 0).mono fun e w' h => ⟨h.1, by rw [h.2]; exact Turn.refl _ _⟩) rfl (by kernel_rfl) (fun _ _ _ h => h) (fun _ _ _ => Iff.rfl) (by rfl) (fun w hSw => by go_simp; first | done | with_reducible rfl) ?_
  simp only [Nat.reduceAdd, AP]
  iterate 4
    refine anyG_y HG (v := ?_) rfl (by kernel_rfl) (fun _ _ _ h => h) (fun _ _ _ => Iff.rfl) (Or.inl ⟨by rfl, fun w hSw => ?_⟩) ?_
    rotate_left
    · skip
      first | (go_simp; done) | (go_simp; with_reducible rfl)
    simp only [Nat.reduceAdd, AP]
  refine anyG_c HG (fun w hSw => (Num9_any w 0).mono fun e w' h => ⟨h.1, by rw [h.2]; exact Turn.refl _ _⟩) rfl (by kernel_rfl) (fun _ _ _ h => h) (fun _ _ _ => Iff.rfl) (by rfl) (fun w hSw => by go_simp; first | done | with_reducible rfl) ?_
  simp only [Nat.reduceAdd, AP]
  iterate 4
    refine anyG_y HG (v := ?_) rfl (by kernel_rfl) (fun _ _ _ h => h) (fun _ _ _ => Iff.rfl) (Or.inl ⟨by rfl, fun w hSw => ?_⟩) ?_
    rotate_left
    · skip
      first | (go_simp; done) | (go_simp; with_reducible rfl)
    simp only [Nat.reduceAdd, AP]
  iterate 1
    refine anyG_y HG (v := ?_) rfl (by kernel_rfl) (fun _ _ _ h => h) (fun _ _ _ => Iff.rfl) (Or.inl ⟨by rfl, fun w hSw => ?_⟩) ?_
    rotate_left
    · skip
      have hi1 := HI1.out
      first | (go_simp; done) | (go_simp; with_reducible rfl)
    simp only [Nat.reduceAdd, AP]
  iterate 1
    refine anyG_y HG (v := ?_) rfl (by kernel_rfl) (fun _ _ _ h => h) (fun _ _ _ => Iff.rfl) (Or.inl ⟨by rfl, fun w hSw => ?_⟩) ?_
    rotate_left
    · skip
      obtain ⟨j1, j2, j3, j4, j5, j6⟩ := HJ.out
      first | (go_simp; done) | (go_simp; with_reducible rfl)
    simp only [Nat.reduceAdd, AP]
  iterate 9
    refine anyG_y HG (v := ?_) rfl (by kernel_rfl) (fun _ _ _ h => h) (fun _ _ _ => Iff.rfl) (Or.inl ⟨by rfl, fun w hSw => ?_⟩) ?_
    rotate_left
    · skip
      have k4 := HCC.out _ _ hSw.2.head
      obtain ⟨j1, j2, j3, j4, j5, j6⟩ := HJ.out
      first | (go_simp; done) | (go_simp; with_reducible rfl)
    simp only [Nat.reduceAdd, AP]
  iterate 1
    refine anyG_y HG (v := ?_) rfl (by kernel_rfl) (fun _ _ _ h => h) (fun _ _ _ => Iff.rfl) (Or.inl ⟨by rfl, fun w hSw => ?_⟩) ?_
    rotate_left
    · skip
      have hi2 := HI2.out
      have xw : IntKind.i64.wrap 2283 = 2283 := rfl
      first | (go_simp; done) | (go_simp; with_reducible rfl)
    simp only [Nat.reduceAdd, AP]
  iterate 7
    refine anyG_y HG (v := ?_) rfl (by kernel_rfl) (fun _ _ _ h => h) (fun _ _ _ => Iff.rfl) (Or.inl ⟨by rfl, fun w hSw => ?_⟩) ?_
    rotate_left
    · skip
      have k4 := HCC.out _ _ hSw.2.head
      obtain ⟨j1, j2, j3, j4, j5, j6⟩ := HJ.out
      first | (go_simp; done) | (go_simp; with_reducible rfl)
    simp only [Nat.reduceAdd, AP]
  refine anyG_done (by kernel_rfl) (fun w11 hS _ => ?_) _
  obtain ⟨hpS, hS⟩ := hS
  clear HG
  have PT := Lib.hid (PT.out.pure hpS)
  clear hS hpS
  go_wp2
  go_ret
  exact ⟨rfl, PT.out⟩
end Go.Proofs.Ytcfbmbhkdicpfaa
