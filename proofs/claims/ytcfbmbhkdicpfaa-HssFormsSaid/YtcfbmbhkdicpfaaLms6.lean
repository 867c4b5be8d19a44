/- Chapter 5: public keys. -/
import Derived.Test.YtcfbmbhkdicpfaaLms4
import Derived.Test.YtcfbmbhkdicpfaaLms5
namespace Go.Proofs.Ytcfbmbhkdicpfaa
open Go.RowKit

theorem Calls.pureEq {P : Program} {f : FuncId} {args : Array Value} {w : World} {v : Value} (h : Calls P f args w fun e w' => e = .returned v ∧ w' = w) : Calls P f args w fun e w' => e = .returned v ∧ Pure w w' :=
  h.mono fun e w' h => ⟨h.1, by rw [h.2]; exact Turn.refl _ _⟩
def pubF (k : LKey) : Nat → List UInt8 := fun q => (pubV k.ots k.id (q : Int) k.seed).1
/-- A key's public part. -/
def lpubV (k : LKey) : List UInt8 × Int :=
  if lmayB k = true then (beB (typeV k.height).toNat 4 ++ beB k.ots.toNat 4 ++ k.id ++ nodeN k.id (pubF k) (2 ^ k.height.toNat) 1, 0) else ([], 500)
theorem lmay_parts {k : LKey} (h : lmayB k = true) : ∃ o ht n : Nat, k.ots = (o : Int) ∧ (o = 3 ∨ o = 4) ∧ k.height = (ht : Int) ∧ 1 ≤ ht ∧ ht ≤ 5 ∧ k.id.length = 16 ∧ k.seed.length = 32 ∧ k.next = (n : Int) ∧ n ≤ 2 ^ ht := by
  simp only [lmayB, Bool.and_eq_true, decide_eq_true_eq] at h
  obtain ⟨⟨⟨⟨⟨⟨h1, h2⟩, h3⟩, h4⟩, h5⟩, h6⟩, h7⟩ := h
  rcases kindB_parts h1 with e | e
  · refine ⟨3, k.height.toNat, k.next.toNat, e, Or.inl rfl, by omega, by omega, by omega, h4, h5, by omega, ?_⟩
    have : ((2 ^ k.height.toNat : Nat) : Int) = (2 : Int) ^ k.height.toNat := by rw [Int.natCast_pow]; rfl
    omega
  · refine ⟨4, k.height.toNat, k.next.toNat, e, Or.inr rfl, by omega, by omega, by omega, h4, h5, by omega, ?_⟩
    have : ((2 ^ k.height.toNat : Nat) : Int) = (2 : Int) ^ k.height.toNat := by rw [Int.natCast_pow]; rfl
    omega
theorem typeV_nat (h : Nat) (h5 : h ≤ 5) : ∃ t : Nat, typeV (h : Int) = (t : Int) ∧ t < 4294967296 := by
  refine ⟨(typeV (h : Int)).toNat, ?_, ?_⟩ <;> (unfold typeV; split <;> omega)
theorem infoLK : (Try.prog.info? 68).map (·.size) = some 5 := by kernel_rfl

set_option maxRecDepth 100000 in
set_option maxHeartbeats 4000000 in
theorem LPublic_any (w : World) (k : LKey) : Calls Try.prog 31 #[.agg (lkC k).toArray] w fun e w' => e = .returned (.tuple #[.string (bstr (lpubV k).1), .int .i64 (lpubV k).2]) ∧ Pure w w' := by
  have hmay := fun W => LMay_any W k
  have htree := fun W (h : Nat) (hk : k.height = (h : Int)) (h1 : 1 ≤ h) (h5 : h ≤ 5) (hid : k.id.length = 16) => tree_any W k h hk h1 h5 hid
  have hpv : lpubV k = if lmayB k = true then (beB (typeV k.height).toNat 4 ++ beB k.ots.toNat 4 ++ k.id ++ nodeN k.id (pubF k) (2 ^ k.height.toNat) 1, 0) else ([], 500) := rfl
  have HC := Lib.hid (fun W g => @lk_cells k W g)
  have hCl : (lkC k).length = 5 := rfl
  obtain ⟨C, hC⟩ : ∃ C, C = lkC k := ⟨_, rfl⟩
  rw [← hC] at HC hmay hCl ⊢
  have htree' : ∀ W (h : Nat), k.height = (h : Int) → 1 ≤ h → h ≤ 5 → k.id.length = 16 → Calls Try.prog 78 #[.agg C.toArray] W fun e w' => ∃ r, e = .returned r ∧ TreeR W w' r (nodeN k.id (pubF k) (2 ^ h)) (2 * 2 ^ h) ∧ Pure W w' := by
    rw [hC]; exact htree
  clear htree
  have HCI : Hid ((Try.prog.info? 68).map (·.size) = some C.length) := Lib.hid (by rw [hCl]; exact infoLK)
  clear hC hCl
  by_cases hB : lmayB k = true
  · rw [hB] at hmay
    rw [if_pos hB] at hpv
    obtain ⟨o, ht, n, ho, ho2, hh, h1, h5, hid, _, _, _⟩ := lmay_parts hB
    obtain ⟨t, htv, ht2⟩ := typeV_nat ht h5
    have htr := fun W => htree' W ht hh h1 h5 hid
    have hty := fun W => Calls.pureEq (typeOf_any W (ht : Int) (by omega) (by omega))
    rw [htv] at hty
    have hn1 := fun W => lnum_any W t 4 (by omega) (by omega)
    have hn2 := fun W => lnum_any W o 4 (by omega) (by omega)
    rw [hh, htv, ho, Int.toNat_natCast, Int.toNat_natCast, Int.toNat_natCast] at hpv
    have hb1 : (beB t 4).length = 4 := beB_length _ _
    have hb2 : (beB o 4).length = 4 := beB_length _ _
    have hnl : (nodeN k.id (pubF k) (2 ^ ht) 1).length = 32 := nodeN_length _ _ _ _
    have HNE : Hid (2 ≤ 2 ^ ht) := Lib.hid (by rcases (by omega : ht = 1 ∨ ht = 2 ∨ ht = 3 ∨ ht = 4 ∨ ht = 5) with rfl | rfl | rfl | rfl | rfl <;> decide)
    generalize hNN : nodeN k.id (pubF k) (2 ^ ht) = NN at *
    obtain ⟨nd, hnd⟩ : ∃ nd, nd = NN 1 := ⟨_, rfl⟩
    rw [← hnd] at hnl hpv
    have HND := Lib.hid hnd; clear hnd hNN
    obtain ⟨M, hM⟩ : ∃ M, M = 2 * 2 ^ ht := ⟨_, rfl⟩
    rw [← hM] at htr
    have hM4 : 4 ≤ M := by have := HNE.out; omega
    clear hM
    generalize beB t 4 = b1 at *
    generalize beB o 4 = b2 at *
    obtain ⟨ots, height, id, seed, next⟩ := k
    simp only at HC hid hh ho hpv
    subst hh
    subst ho
    obtain ⟨A1, hA1⟩ : ∃ A1, A1 = b1 ++ b2 := ⟨_, rfl⟩
    have A1l : A1.length = 4 + 4 := by rw [hA1, List.length_append]; first | rfl | omega | (simp; omega) | simp
    have aA1 : bstr b1 ++ bstr b2 = bstr A1 := by rw [hA1]; exact bstr_app b1 b2
    have zA1 : (bstr A1).size = 4 + 4 := by rw [bstr_size, A1l]
    have nA1 : ¬ (9223372036854775807 < 4 + 4) := by omega
    obtain ⟨A2, hA2⟩ : ∃ A2, A2 = A1 ++ id := ⟨_, rfl⟩
    have A2l : A2.length = (4 + 4) + 16 := by rw [hA2, List.length_append]; first | rfl | omega | (simp; omega) | simp
    have aA2 : bstr A1 ++ bstr id = bstr A2 := by rw [hA2]; exact bstr_app A1 id
    have zA2 : (bstr A2).size = (4 + 4) + 16 := by rw [bstr_size, A2l]
    have nA2 : ¬ (9223372036854775807 < (4 + 4) + 16) := by omega
    obtain ⟨A3, hA3⟩ : ∃ A3, A3 = A2 ++ nd := ⟨_, rfl⟩
    have A3l : A3.length = (4 + 4 + 16) + 32 := by rw [hA3, List.length_append]; first | rfl | omega | (simp; omega) | simp
    have aA3 : bstr A2 ++ bstr nd = bstr A3 := by rw [hA3]; exact bstr_app A2 nd
    have zA3 : (bstr A3).size = (4 + 4 + 16) + 32 := by rw [bstr_size, A3l]
    have nA3 : ¬ (9223372036854775807 < (4 + 4 + 16) + 32) := by omega
    rw [← hA1, ← hA2, ← hA3] at hpv
    have zi : (bstr id).size = 16 := by rw [bstr_size, hid]
    have z1 : (bstr b1).size = 4 := by rw [bstr_size, hb1]
    have z2 : (bstr b2).size = 4 := by rw [bstr_size, hb2]
    have z3 : (bstr nd).size = 32 := by rw [bstr_size, hnl]
    rw [hpv]
    obtain ⟨X, hXl, HZ⟩ := ex28
    have HM := Lib.hid hmay; have HT := Lib.hid htr; have HTY := Lib.hid hty; have HN1 := Lib.hid hn1; have HN2 := Lib.hid hn2
    have HM4 := Lib.hid hM4
    clear hmay htr hty hn1 hn2 htree' hpv hB hA1 hA2 hA3 A1l A2l A3l htv hM4 hid hb1 hb2 h1 h5 ho2 ht2
    go_enter Try.func31, Try.ntmps31
    go_wp2_with (refine wpList_boxV rfl 68 _ rfl C rfl ?_)
    intro g1 w1 e1 c1 t1 s1
    clear e1 s1
    have D1 := Lib.hid c1; have PT := Lib.hid t1
    clear c1 t1
    have R1 := range_of_row D1.out
    go_wp2_with (refine wpList_load_mid rfl 68 _ rfl g1 0 rfl C _ R1 Try.underlying68 rfl HCI.out ?_)
    clear R1
    refine (HM.out _).mono ?_
    rintro e w2 ⟨rfl, t2⟩
    have D1 := Lib.hid (t2.obj D1.out (fun e => e)); have PT := Lib.hid (PT.out.pure t2)
    clear t2
    have R1 := range_of_row D1.out
    go_wp2_with (refine wpList_load_mid rfl 68 _ rfl g1 0 rfl C _ R1 Try.underlying68 rfl HCI.out ?_)
    clear R1
    refine (HT.out _).mono ?_
    rintro e w3 ⟨r, rfl, ⟨g3, L, rfl, d3, hL, hL2, hL3, l3⟩, t3⟩
    have D1 := Lib.hid (t3.obj D1.out (fun e => e)); have PT := Lib.hid (PT.out.pure t3); have D3 := Lib.hid d3
    have R3 := hrowV_at (i := 1) hL2 (by rw [hL3 1 (by omega) (by have := HM4.out; omega), ← HND.out]) d3
    have q1 : (1 : Int) < M := by have := HM4.out; omega
    clear t3 d3 hL hL2 hL3
    go_wp2_with (first | (refine wpList_load_mid rfl 62 _ rfl g3 32 rfl (u8s nd) _ R3 Try.underlying62 rfl (info28_l hnl) ?_) | (refine wpList_allocZ rfl 62 rfl X HZ.out ?_))
    intro g4 w4 e4 c4 t4 s4
    have g4w : w3.heap.size ≤ g4 := by omega
    clear e4 s4 R3 D3 q1
    go_wp2_with (refine wpList_store_blk rfl 62 _ _ rfl g4 _ (u8s nd) _ rfl rfl c4 (size28 hXl hnl) (info28_l hnl) (u8s_one _) ?_)
    intro w5 c5 t5 _
    have hp5 : Pure w3 w5 := t4.trans t5 fun q hq e => by omega
    have D4 := Lib.hid c5; have D1 := Lib.hid (hp5.obj D1.out (fun e => e)); have PT := Lib.hid (PT.out.pure hp5)
    clear c4 c5 t4 t5 hp5 g4w
    go_wp2_with fail
    refine wp_region_G (S := fun w' => Pure w5 w' ∧ Held [(g1, Obj.cells C.toArray 68 (0, 0)), (g4, Obj.cells (u8s nd).toArray 62 (0, 0))] w') (T := fun _ _ _ => True) (by kernel_rfl) ⟨(Turn.refl _ _).drew, held_cons (show w5.drew.heap[_]? = _ from D1.out) (held_cons (show w5.drew.heap[_]? = _ from D4.out) (held_nil _))⟩ trivial ?_
    have HG := Grow.held w5 [(g1, Obj.cells C.toArray 68 (0, 0)), (g4, Obj.cells (u8s nd).toArray 62 (0, 0))]
    refine atN 0 ?_
    refine anyG_y HG (v := ?_) rfl (by kernel_rfl) (fun _ _ _ h => h) (fun _ _ _ => Iff.rfl) (Or.inl ⟨by rfl, fun w hSw => ?_⟩) ?_
    rotate_left
    · skip
      first | (go_simp; done) | (go_simp; with_reducible rfl)
    simp only [Nat.reduceAdd, AP]
    refine atN 1 ?_
    refine anyG_y HG (v := ?_) rfl (by kernel_rfl) (fun _ _ _ h => h) (fun _ _ _ => Iff.rfl) (Or.inl ⟨by rfl, fun w hSw => ?_⟩) ?_
    rotate_left
    · obtain ⟨s0, s1, s2, s3, s4⟩ := HC.out _ _ hSw.2.head
      first | (go_simp; done) | (go_simp; with_reducible rfl)
    simp only [Nat.reduceAdd, AP]
    refine anyG_call HG (i := 2) (fun w hSw => HTY.out w) rfl (by kernel_rfl) (by kernel_rfl) (by kernel_rfl) (fun _ _ _ h => h) (fun _ _ _ => Iff.rfl) (by rfl) (fun w hSw => by go_simp; first | done | with_reducible rfl) ?_
    simp only [AP]
    refine anyG_call HG (i := 3) (fun w hSw => HN1.out w) rfl (by kernel_rfl) (by kernel_rfl) (by kernel_rfl) (fun _ _ _ h => h) (fun _ _ _ => Iff.rfl) (by rfl) (fun w hSw => by go_simp; first | done | with_reducible rfl) ?_
    simp only [AP]
    refine atN 4 ?_
    refine anyG_y HG (v := ?_) rfl (by kernel_rfl) (fun _ _ _ h => h) (fun _ _ _ => Iff.rfl) (Or.inl ⟨by rfl, fun w hSw => ?_⟩) ?_
    rotate_left
    · skip
      first | (go_simp; done) | (go_simp; with_reducible rfl)
    simp only [Nat.reduceAdd, AP]
    refine atN 5 ?_
    refine anyG_y HG (v := ?_) rfl (by kernel_rfl) (fun _ _ _ h => h) (fun _ _ _ => Iff.rfl) (Or.inl ⟨by rfl, fun w hSw => ?_⟩) ?_
    rotate_left
    · obtain ⟨s0, s1, s2, s3, s4⟩ := HC.out _ _ hSw.2.head
      first | (go_simp; done) | (go_simp; with_reducible rfl)
    simp only [Nat.reduceAdd, AP]
    refine anyG_call HG (i := 6) (fun w hSw => HN2.out w) rfl (by kernel_rfl) (by kernel_rfl) (by kernel_rfl) (fun _ _ _ h => h) (fun _ _ _ => Iff.rfl) (by rfl) (fun w hSw => by go_simp; first | done | with_reducible rfl) ?_
    simp only [AP]
    refine atN 7 ?_
    iterate 2
      refine anyG_y HG (v := ?_) rfl (by kernel_rfl) (fun _ _ _ h => h) (fun _ _ _ => Iff.rfl) (Or.inl ⟨by rfl, fun w hSw => ?_⟩) ?_
      rotate_left
      · skip
        first | (go_simp; done) | (go_simp; with_reducible rfl)
      simp only [Nat.reduceAdd, AP]
    refine atN 9 ?_
    refine anyG_y HG (v := ?_) rfl (by kernel_rfl) (fun _ _ _ h => h) (fun _ _ _ => Iff.rfl) (Or.inl ⟨by rfl, fun w hSw => ?_⟩) ?_
    rotate_left
    · obtain ⟨s0, s1, s2, s3, s4⟩ := HC.out _ _ hSw.2.head
      first | (go_simp; done) | (go_simp; with_reducible rfl)
    simp only [Nat.reduceAdd, AP]
    refine atN 10 ?_
    iterate 2
      refine anyG_y HG (v := ?_) rfl (by kernel_rfl) (fun _ _ _ h => h) (fun _ _ _ => Iff.rfl) (Or.inl ⟨by rfl, fun w hSw => ?_⟩) ?_
      rotate_left
      · skip
        first | (go_simp; done) | (go_simp; with_reducible rfl)
      simp only [Nat.reduceAdd, AP]
    refine atN 12 ?_
    refine anyG_y HG (v := ?_) rfl (by kernel_rfl) (fun _ _ _ h => h) (fun _ _ _ => Iff.rfl) (Or.inl ⟨by rfl, fun w hSw => ?_⟩) ?_
    rotate_left
    · have hcv := conv_block (P := Try.prog) w 65 5 9 62 (0, 0) Try.underlying65 Try.underlying5 Try.underlying9 g4 32 nd 32 hnl hSw.2.tail.head
      first | (go_simp; done) | (go_simp; with_reducible rfl)
    simp only [Nat.reduceAdd, AP]
    refine atN 13 ?_
    iterate 3
      refine anyG_y HG (v := ?_) rfl (by kernel_rfl) (fun _ _ _ h => h) (fun _ _ _ => Iff.rfl) (Or.inl ⟨by rfl, fun w hSw => ?_⟩) ?_
      rotate_left
      · skip
        first | (go_simp; done) | (go_simp; with_reducible rfl)
      simp only [Nat.reduceAdd, AP]
    refine anyG_done (by kernel_rfl) (fun w6 hS _ => ?_) _
    obtain ⟨hpS, hS⟩ := hS
    clear HG
    have PT := Lib.hid (PT.out.pure hpS)
    clear hS hpS
    go_wp2
    go_ret2
    exact ⟨rfl, PT.out⟩
  · have hB2 : lmayB k = false := by simpa using hB
    rw [hB2] at hmay
    rw [if_neg hB] at hpv
    rw [hpv]
    have HM := Lib.hid hmay
    clear hmay htree' hpv hB hB2
    go_enter Try.func31, Try.ntmps31
    go_wp2_with (refine wpList_boxV rfl 68 _ rfl C rfl ?_)
    intro g1 w1 e1 c1 t1 s1
    clear e1 s1
    have PT := Lib.hid t1
    have R1 := range_of_row c1
    clear c1 t1
    go_wp2_with (refine wpList_load_mid rfl 68 _ rfl g1 0 rfl C _ R1 Try.underlying68 rfl HCI.out ?_)
    clear R1
    refine (HM.out _).mono ?_
    rintro e w2 ⟨rfl, t2⟩
    have PT := Lib.hid (PT.out.pure t2)
    clear t2
    go_wp2
    go_ret2
    exact ⟨rfl, PT.out⟩
end Go.Proofs.Ytcfbmbhkdicpfaa
