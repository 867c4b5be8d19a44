/- Chapter 5: the tree over one-time keys: the walk of the law LmsTree. -/
import Derived.Test.YtmifchdmlbcclaaLmsK
import Derived.Test.YtmifchdmlbcclaaLmsA
import Derived.Test.YtmifchdmlbcclaaRow8
namespace Go.Proofs.Ytmifchdmlbcclaa
open Go.RowKit

theorem tree_pub (s : List UInt8) {b : Nat} (hb : b < 2) : (lpubV (keyV s b)).1 = [240, 0, 0] ++ [UInt8.ofNat (1 + b)] ++ [0, 0, 0, 3] ++ (keyV s b).id ++ nodeN (keyV s b).id (pubF (keyV s b)) (2 ^ (1 + b)) 1 := by
  rw [lpubV, if_pos (keyV_may s hb)]
  have e2 : beB (keyV s b).ots.toNat 4 = [0, 0, 0, 3] := by show beB 3 4 = _; decide
  have e1 : beB (typeV (keyV s b).height).toNat 4 = [240, 0, 0] ++ [UInt8.ofNat (1 + b)] := by
    show beB (typeV ((1 + b : Nat) : Int)).toNat 4 = _
    rcases (by omega : b = 0 ∨ b = 1) with rfl | rfl <;> decide
  rw [e1, e2]
  rfl

set_option maxRecDepth 100000 in
set_option maxHeartbeats 4000000 in
theorem lmsTree_walk (seed : List UInt8) (tall : Bool) (w : World) (hs : seed.length ≤ 140737488351232) :
    Calls Try.prog 11 #[.string (bstr seed), .bool tall] w fun e w' => e = .returned (.bool true) ∧ Pure w w' := by
  obtain ⟨X, hXl, HZ⟩ := ex28
  obtain ⟨b, hb2, hbt⟩ : ∃ b : Nat, b < 2 ∧ ((tall = true ∧ b = 1) ∨ (tall = false ∧ b = 0)) := by cases tall; exact ⟨0, by omega, Or.inr ⟨rfl, rfl⟩⟩; exact ⟨1, by omega, Or.inl ⟨rfl, rfl⟩⟩
  have hky := fun W => Key5_any W seed (b : Int) b hs (by omega)
  have hpk := fun W => LPublic_any W (keyV seed b)
  rw [lpub_ok (keyV_may seed hb2), tree_pub seed hb2] at hpk
  have hid0 : (keyV seed b).id.length = 16 := filledV_length _ _
  have hsd0 : (keyV seed b).seed.length = 32 := filledV_length _ _
  have HC := Lib.hid (fun W g => @lk_cells (keyV seed b) W g)
  have hCl : (lkC (keyV seed b)).length = 5 := rfl
  have hC1 := lkC_one (keyV seed b)
  have hpubv : ∀ q : Nat, q ≤ 1000 → (pubV 3 (keyV seed b).id (q : Int) (keyV seed b).seed).2 = 0 := fun q hq => by
    rw [pubV, if_pos ⟨rfl, decide_eq_true ⟨hid0, by omega, by omega⟩, hsd0⟩]
  have hpub : ∀ W (q : Nat), q ≤ 1000 → Calls Try.prog 13 #[.int .i64 3, .string (bstr (keyV seed b).id), .int .i64 (q : Int), .string (bstr (keyV seed b).seed)] W fun e w' => e = .returned (.tuple #[hv (pubF (keyV seed b) q), .int .i64 0]) ∧ Pure W w' := fun W q hq => by
    have := Public_all W 3 (keyV seed b).id (q : Int) (keyV seed b).seed (by omega)
    rwa [hpubv q hq] at this
  obtain ⟨h, hh⟩ : ∃ h, h = 1 + b := ⟨_, rfl⟩
  have hht : (keyV seed b).height = (h : Int) := by rw [hh]; rfl
  have hot : (keyV seed b).ots = 3 := rfl
  generalize keyV seed b = k at *
  obtain ⟨C, hC⟩ : ∃ C, C = lkC k := ⟨_, rfl⟩
  rw [← hC] at HC hky hpk hCl hC1
  have HCI : Hid ((Try.prog.info? 45).map (·.size) = some C.length) := Lib.hid (by rw [hCl]; exact infoLK)
  have HC1 := Lib.hid hC1; have HCL := Lib.hid hCl
  rw [← hh] at hpk
  clear hC hCl hC1
  have hh5 : h = 1 ∨ h = 2 ∨ h = 3 ∨ h = 4 ∨ h = 5 := by omega
  have hsh1 := may_sh1 h hh5
  have hsh2 := may_sh2 h hh5
  have hsh3 := may_sh3 h hh5
  have hm32 : 2 ^ h ≤ 32 := by rcases hh5 with rfl | rfl | rfl | rfl | rfl <;> decide
  have hm2 : 2 ≤ 2 ^ h := by rcases hh5 with rfl | rfl | rfl | rfl | rfl <;> decide
  have hp0 : ((2 ^ h : Nat) : Int) = (2 : Int) ^ h := by rw [Int.natCast_pow]; rfl
  obtain ⟨m, hm⟩ : ∃ m, m = 2 ^ h := ⟨_, rfl⟩
  rw [← hm] at hm32 hm2 hp0 hpk
  replace hsh1 : wrap64 ((2 : Int) ^ h) = (m : Int) := by rw [hp0]; exact hsh1
  replace hsh2 : IntKind.i64.wrap ((2 : Int) ^ h) = (m : Int) := by rw [hp0]; exact hsh2
  replace hsh3 : IntKind.i64.wrap ((2 : Int) ^ min h 64) = (m : Int) := by rw [hp0]; exact hsh3
  have HSH := Lib.hid (And.intro hsh1 (And.intro hsh2 hsh3))
  clear hsh1 hsh2 hsh3 hh5 hp0 hm
  obtain ⟨M, hM⟩ : ∃ M, M = 2 * m := ⟨_, rfl⟩
  have hpl : ∀ q, (pubF k q).length = 32 := fun q => pubV_length _ _ _ _
  have hnl : ∀ r, m ≤ r → nodeN k.id (pubF k) m r = tipV k.id r (pubF k (r - m)) := fun r h => nodeN_leaf h
  have hni : ∀ r, 1 ≤ r → r < m → nodeN k.id (pubF k) m r = nodV k.id r (nodeN k.id (pubF k) m (2 * r)) (nodeN k.id (pubF k) m (2 * r + 1)) := fun r h h' => nodeN_in h h'
  have hnn : ∀ r, (nodeN k.id (pubF k) m r).length = 32 := fun r => nodeN_length _ _ _ _
  generalize nodeN k.id (pubF k) m = N at *
  generalize pubF k = pub at *
  have HPB := Lib.hid hpub; have HPL := Lib.hid hpl; have HNL := Lib.hid hnl; have HNI := Lib.hid hni; have HNN := Lib.hid hnn
  have mk : ∀ W, (Instr.makeSlice 57 (.int .i64 (2 * (m : Int))) (.int .i64 (2 * (m : Int)))).run Try.prog W = .ok (.slice (some ⟨W.heap.size, 0, none⟩) M M) (W.alloc (.cells (strsV (List.replicate M [])).toArray 9)) := fun W => by
    rw [show 2 * (m : Int) = ((M : Nat) : Int) by omega]; exact make_S W M (by omega)
  obtain ⟨L0, hL0⟩ : ∃ L0 : List (List UInt8), L0 = List.replicate M [] := ⟨_, rfl⟩
  simp only [← hL0] at mk
  have hL0l : L0.length = M := by rw [hL0]; simp
  have HMM := Lib.hid hM
  have hM64 : M ≤ 64 ∧ 4 ≤ M ∧ m ≤ M := by omega
  obtain ⟨ots, height, id, seedk, next⟩ := k
  simp only at HC hht hot HPB HNL HNI hid0 hpk
  subst hht
  subst hot
  have hid := hid0
  have HMK := Lib.hid mk; have HPK := Lib.hid hpk; have HKY := Lib.hid hky
  clear hpub hpl hnl hni hnn hL0 hM hpubv mk hpk hid0 hsd0 hky
  have PT := Lib.hid (Turn.refl (fun _ => False) w)
  have hH1 : 1 ≤ h ∧ h ≤ 2 := by omega
  obtain ⟨v, hv⟩ : ∃ v, v = UInt8.ofNat h := ⟨_, rfl⟩
  have iv : IntKind.u8.wrap (h : Int) = (v.toNat : Int) := by rw [hv]; rcases (by omega : h = 1 ∨ h = 2) with e | e <;> rw [e] <;> rfl
  obtain ⟨N1, hN1⟩ : ∃ N1, N1 = N 1 := ⟨_, rfl⟩
  have hN1l : N1.length = 32 := by rw [hN1]; exact HNN.out 1
  have HN1 := Lib.hid hN1
  have hpk := HPK.out
  rw [← hv, ← hN1] at hpk
  obtain ⟨B1, hB1⟩ : ∃ B1, B1 = [240, 0, 0] ++ [v] := ⟨_, rfl⟩
  rw [← hB1] at hpk
  obtain ⟨B2, hB2⟩ : ∃ B2, B2 = B1 ++ [0, 0, 0, 3] := ⟨_, rfl⟩
  rw [← hB2] at hpk
  obtain ⟨B3, hB3⟩ : ∃ B3, B3 = B2 ++ id := ⟨_, rfl⟩
  rw [← hB3] at hpk
  obtain ⟨PK, hPK⟩ : ∃ PK, PK = B3 ++ N1 := ⟨_, rfl⟩
  rw [← hPK] at hpk
  have HPK := Lib.hid hpk
  have lB1 : B1.length = 4 := by rw [hB1]; rfl
  have lB2 : B2.length = 8 := by rw [hB2, List.length_append, lB1]; rfl
  have lB3 : B3.length = 24 := by rw [hB3, List.length_append, lB2, hid]
  have lPK : PK.length = 56 := by rw [hPK, List.length_append, lB3, hN1l]
  have p1 : (⟨#[240, 0, 0]⟩ : ByteArray) ++ bstr [v] = bstr B1 := by rw [hB1]; exact bstr_app [240, 0, 0] [v]
  have p2 : bstr B1 ++ (⟨#[0, 0, 0, 3]⟩ : ByteArray) = bstr B2 := by rw [hB2]; exact bstr_app B1 [0, 0, 0, 3]
  have p3 : bstr B2 ++ bstr id = bstr B3 := by rw [hB3]; exact bstr_app _ _
  have p4 : bstr B3 ++ bstr N1 = bstr PK := by rw [hPK]; exact bstr_app _ _
  have HPX := Lib.hid (And.intro p1 (And.intro p2 (And.intro p3 (And.intro p4 (And.intro (show (bstr B1).size = 4 from by rw [bstr_size, lB1]) (And.intro (show (bstr B2).size = 8 from by rw [bstr_size, lB2]) (And.intro (show (bstr B3).size = 24 from by rw [bstr_size, lB3]) (show (bstr [v]).size = 1 from by rw [bstr_size]; rfl))))))))
  have HIV := Lib.hid iv
  clear hpk p1 p2 p3 p4 lB1 lB2 lB3 lPK hB1 hB2 hB3 hPK hv hN1 iv
  clear hs hh
  rcases hbt with ⟨rfl, rfl⟩ | ⟨rfl, rfl⟩
  all_goals
    go_enter Try.func11, Try.ntmps11
    go_wp2_with fail
    refine (awake5 _).mono ?_
    rintro e w1 ⟨rfl, t1⟩
    have PT := Lib.hid (PT.out.pure t1)
    clear t1
    go_wp2_with fail
    refine (HKY.out _).mono ?_
    rintro e w2 ⟨rfl, t2⟩
    have PT := Lib.hid (PT.out.pure t2)
    clear t2
    go_wp2_with (refine wpList_allocZ rfl 45 rfl _ zeroLK ?_)
    intro g6 w3 e3 c3 t3 s3
    have l6 : w.heap.size ≤ g6 := by have := PT.out.size; omega
    clear e3 s3
    go_wp2_with (refine wpList_store_blk rfl 45 _ _ rfl g6 _ C _ rfl rfl c3 (by rw [HCL.out]; rfl) HCI.out HC1.out ?_)
    intro w4 d4 t4 s4
    clear s4
    have D6 := Lib.hid d4; have PT := Lib.hid ((PT.out.pure t3).newer t4 l6)
    clear c3 t3 d4 t4
    obtain ⟨k0, k1, k2, k3, k4⟩ := HC.out _ _ D6.out
    obtain ⟨hsh1, hsh2, hsh3⟩ := HSH.out
    have n8 : w4.heap.size ≠ g6 := by have := (Array.getElem?_eq_some_iff.1 D6.out).1; omega
    have l8 : w.heap.size ≤ w4.heap.size := PT.out.size
    have hA : Pure w4 (w4.alloc (.cells (strsV L0).toArray 9)) := (Turn.refl _ _).alloc _
    have D6 := Lib.hid (hA.obj D6.out (fun e => e)); have PT := Lib.hid (PT.out.pure hA)
    have D8 : Hid ((w4.alloc (.cells (strsV L0).toArray 9)).heap[w4.heap.size]? = some (.cells (strsV L0).toArray 9 (0, 0))) := Lib.hid (heap_alloc_new _ _)
    have mk := HMK.out w4
    clear hA
    go_wp2
    generalize w4.alloc (.cells (strsV L0).toArray 9) = w5 at *
    generalize w4.heap.size = g8 at *
    clear k0 k1 k2 k3 k4 mk hsh1 hsh2 hsh3
    go_loopw [9] (fun i wr => ∃ (r : Nat) (L : List (List UInt8)), r < M ∧ i = .int .i64 (r : Int) ∧ Hid (L.length = M) ∧ Hid (∀ j, r < j → j < M → L[j]? = some (N j)) ∧ Hid (wr.heap[g8]? = some (.cells (strsV L).toArray 9 (0, 0))) ∧ Hid (wr.heap[g6]? = some (.cells C.toArray 45 (0, 0))) ∧ Hid (Pure w wr)) (fun i _ => (intOf i).toNat)
    case atStart => exact ⟨M - 1, L0, by omega, by have := HMM.out; have : ((M - 1 : Nat) : Int) = 2 * (m : Int) - 1 := by omega
                                                   rw [this], Lib.hid hL0l, Lib.hid (fun j h1 h2 => by omega), D8, D6, PT⟩
    case round =>
      clear D8 D6 PT
      obtain ⟨r, L, hr, rfl, HL, HJ, D8, D6, PT⟩ := hrel
      by_cases hr0 : 0 < r
      case neg =>
        have q0 : ¬ ((0 : Int) < r) := by omega
        obtain rfl : r = 0 := by omega
        have ha1 := HJ.out 1 (by omega) (by omega)
        rw [← HN1.out] at ha1
        have HA1 := Lib.hid ha1
        clear ha1
        have zN1 : (bstr N1).size = 32 := by rw [bstr_size, hN1l]
        have zid : (bstr id).size = 16 := by rw [bstr_size, hid]
        have hM1 : (1 : Int) < M := by omega
        have R1 := range_of_row D6.out
        go_wp2_with (refine wpList_load_mid rfl 45 _ rfl g6 0 rfl C _ R1 Try.underlying45 rfl HCI.out ?_)
        clear R1
        refine (HPK.out _).mono ?_
        rintro e w7 ⟨rfl, t7⟩
        have D8 := Lib.hid (t7.obj D8.out (fun e => e)); have D6 := Lib.hid (t7.obj D6.out (fun e => e)); have PT := Lib.hid (PT.out.pure t7)
        clear t7
        have ea : (PK == PK) = true := beq_self_eq_true _
        obtain ⟨p1, p2, p3, p4, y1, y2, y3, y4⟩ := HPX.out
        have iv := HIV.out
        go_wp2_with fail
        refine wp_region_G (S := fun w' => Pure w7 w' ∧ Held [(g6, Obj.cells C.toArray 45 (0, 0)), (g8, Obj.cells (strsV L).toArray 9 (0, 0))] w') (T := NewSl 101 w7.heap.size (Obj.cells (u8s [v]).toArray 5 (0, 0))) (by kernel_rfl) ⟨(Turn.refl _ _).drew, held_cons (show w7.drew.heap[_]? = _ from D6.out) (held_cons (show w7.drew.heap[_]? = _ from D8.out) (held_nil _))⟩ (fun g h hB => nomatch h) ?_
        have HG := Grow.heldSl w7 [(g6, Obj.cells C.toArray 45 (0, 0)), (g8, Obj.cells (strsV L).toArray 9 (0, 0))] 101 w7.heap.size (Obj.cells (u8s [v]).toArray 5 (0, 0))
        refine atN 0 ?_
        iterate 1
          refine anyG_y HG (v := ?_) rfl (by kernel_rfl) (fun _ _ _ h => h) (NewSl.ins (by decide)) (Or.inl ⟨by rfl, fun w hSw => ?_⟩) ?_
          rotate_left
          · skip
            first | (go_simp; done) | (go_simp; with_reducible rfl)
          simp only [Nat.reduceAdd, List.getElem_toArray, List.getElem_cons_zero, Act.put, List.setIfInBounds_toArray, List.set_cons_zero, List.set_cons_succ]
        refine anyG_c HG (fun w hSw => (Num9_any w 0).mono fun e w' h => ⟨h.1, by rw [h.2]; exact Turn.refl _ _⟩) rfl (by kernel_rfl) (fun _ _ _ h => h) (NewSl.ins (by decide)) (by rfl) (fun w hSw => by go_simp; first | done | with_reducible rfl) ?_
        simp only [Nat.reduceAdd, List.getElem_toArray, List.getElem_cons_succ, List.getElem_cons_zero, Act.put, List.setIfInBounds_toArray, List.set_cons_zero, List.set_cons_succ]
        iterate 6
          refine anyG_y HG (v := ?_) rfl (by kernel_rfl) (fun _ _ _ h => h) (NewSl.ins (by decide)) (Or.inl ⟨by rfl, fun w hSw => ?_⟩) ?_
          rotate_left
          · skip
            obtain ⟨s0, s1, s2, s3, s4⟩ := HC.out _ _ hSw.2.head
            first | (go_simp; done) | (go_simp; with_reducible rfl)
          simp only [Nat.reduceAdd, List.getElem_toArray, List.getElem_cons_succ, List.getElem_cons_zero, Act.put, List.setIfInBounds_toArray, List.set_cons_zero, List.set_cons_succ]
        refine anyG_take HG (i := 12) (v := ?_) rfl (by kernel_rfl) (by kernel_rfl) (by kernel_rfl) (fun _ _ _ h => h) (NewSl.ins (by decide)) (Or.inl ⟨by rfl, fun w hSw => ?_⟩) ?_
        rotate_left
        · skip
          first | (go_simp; done) | (go_simp; with_reducible rfl)
        simp only [List.getElem_toArray, List.getElem_cons_succ, List.getElem_cons_zero, Act.put, List.setIfInBounds_toArray, List.set_cons_zero, List.set_cons_succ]
        refine anyG_take HG (i := 13) (v := ?_) rfl (by kernel_rfl) (by kernel_rfl) (by kernel_rfl) (fun _ _ _ h => h) (NewSl.ins (by decide)) (Or.inl ⟨by rfl, fun w hSw => ?_⟩) ?_
        rotate_left
        · skip
          obtain ⟨s0, s1, s2, s3, s4⟩ := HC.out _ _ hSw.2.head
          first | (go_simp; done) | (go_simp; with_reducible rfl)
        simp only [List.getElem_toArray, List.getElem_cons_succ, List.getElem_cons_zero, Act.put, List.setIfInBounds_toArray, List.set_cons_zero, List.set_cons_succ]
        refine anyG_take HG (i := 15) (v := ?_) rfl (by kernel_rfl) (by kernel_rfl) (by kernel_rfl) (fun _ _ _ h => h) (NewSl.ins (by decide)) (Or.inl ⟨by rfl, fun w hSw => ?_⟩) ?_
        rotate_left
        · skip
          first | (go_simp; done) | (go_simp; with_reducible rfl)
        simp only [List.getElem_toArray, List.getElem_cons_succ, List.getElem_cons_zero, Act.put, List.setIfInBounds_toArray, List.set_cons_zero, List.set_cons_succ]
        refine anyG_take HG (i := 16) (v := ?_) rfl (by kernel_rfl) (by kernel_rfl) (by kernel_rfl) (fun _ _ _ h => h) (NewSl.ins (by decide)) (Or.inl ⟨by rfl, fun w hSw => ?_⟩) ?_
        rotate_left
        · skip
          first | (go_simp; done) | (go_simp; with_reducible rfl)
        simp only [List.getElem_toArray, List.getElem_cons_succ, List.getElem_cons_zero, Act.put, List.setIfInBounds_toArray, List.set_cons_zero, List.set_cons_succ]
        refine anyG_take HG (i := 17) (v := ?_) rfl (by kernel_rfl) (by kernel_rfl) (by kernel_rfl) (fun _ _ _ h => h) (NewSl.ins (by decide)) (Or.inl ⟨by rfl, fun w hSw => ?_⟩) ?_
        rotate_left
        · skip
          have ca := strs_cell HA1.out hSw.2.tail.head
          first | (go_simp; done) | (go_simp; with_reducible rfl)
        simp only [List.getElem_toArray, List.getElem_cons_succ, List.getElem_cons_zero, Act.put, List.setIfInBounds_toArray, List.set_cons_zero, List.set_cons_succ]
        refine anyG_u8 HG (i := 8) (by kernel_rfl) rfl (by rfl) rfl rfl rfl (fun w h => h.1.size) (by simp) (fun gR lR => ?_)
        simp only [Act.put, List.setIfInBounds_toArray, List.set_cons_zero, List.set_cons_succ]
        refine anyG_conv8 (i := 9) (by kernel_rfl) rfl (by rfl) rfl rfl rfl lR rfl (by decide) ?_
        simp only [Act.put, List.setIfInBounds_toArray, List.set_cons_zero, List.set_cons_succ]
        refine anyG_take HG (i := 10) (v := ?_) rfl (by kernel_rfl) (by kernel_rfl) (by kernel_rfl) (fun _ _ _ h => h) (NewSl.ins (by decide)) (Or.inl ⟨by rfl, fun w hSw => ?_⟩) ?_
        rotate_left
        · skip
          first | (go_simp; done) | (go_simp; with_reducible rfl)
        simp only [List.getElem_toArray, List.getElem_cons_succ, List.getElem_cons_zero, Act.put, List.setIfInBounds_toArray, List.set_cons_zero, List.set_cons_succ]
        refine anyG_take HG (i := 11) (v := ?_) rfl (by kernel_rfl) (by kernel_rfl) (by kernel_rfl) (fun _ _ _ h => h) (NewSl.ins (by decide)) (Or.inl ⟨by rfl, fun w hSw => ?_⟩) ?_
        rotate_left
        · skip
          first | (go_simp; done) | (go_simp; with_reducible rfl)
        simp only [List.getElem_toArray, List.getElem_cons_succ, List.getElem_cons_zero, Act.put, List.setIfInBounds_toArray, List.set_cons_zero, List.set_cons_succ]
        refine anyG_take HG (i := 14) (v := ?_) rfl (by kernel_rfl) (by kernel_rfl) (by kernel_rfl) (fun _ _ _ h => h) (NewSl.ins (by decide)) (Or.inl ⟨by rfl, fun w hSw => ?_⟩) ?_
        rotate_left
        · skip
          first | (go_simp; done) | (go_simp; with_reducible rfl)
        simp only [List.getElem_toArray, List.getElem_cons_succ, List.getElem_cons_zero, Act.put, List.setIfInBounds_toArray, List.set_cons_zero, List.set_cons_succ]
        refine anyG_take HG (i := 18) (v := ?_) rfl (by kernel_rfl) (by kernel_rfl) (by kernel_rfl) (fun _ _ _ h => h) (NewSl.ins (by decide)) (Or.inl ⟨by rfl, fun w hSw => ?_⟩) ?_
        rotate_left
        · skip
          first | (go_simp; done) | (go_simp; with_reducible rfl)
        simp only [List.getElem_toArray, List.getElem_cons_succ, List.getElem_cons_zero, Act.put, List.setIfInBounds_toArray, List.set_cons_zero, List.set_cons_succ]
        refine anyG_take HG (i := 19) (v := ?_) rfl (by kernel_rfl) (by kernel_rfl) (by kernel_rfl) (fun _ _ _ h => h) (NewSl.ins (by decide)) (Or.inl ⟨by rfl, fun w hSw => ?_⟩) ?_
        rotate_left
        · skip
          first | (go_simp; done) | (go_simp; with_reducible rfl)
        simp only [List.getElem_toArray, List.getElem_cons_succ, List.getElem_cons_zero, Act.put, List.setIfInBounds_toArray, List.set_cons_zero, List.set_cons_succ]
        refine anyG_take HG (i := 20) (v := ?_) rfl (by kernel_rfl) (by kernel_rfl) (by kernel_rfl) (fun _ _ _ h => h) (NewSl.ins (by decide)) (Or.inl ⟨by rfl, fun w hSw => ?_⟩) ?_
        rotate_left
        · skip
          first | (go_simp; done) | (go_simp; with_reducible rfl)
        simp only [List.getElem_toArray, List.getElem_cons_succ, List.getElem_cons_zero, Act.put, List.setIfInBounds_toArray, List.set_cons_zero, List.set_cons_succ]
        refine anyG_take HG (i := 21) (v := ?_) rfl (by kernel_rfl) (by kernel_rfl) (by kernel_rfl) (fun _ _ _ h => h) (NewSl.ins (by decide)) (Or.inl ⟨by rfl, fun w hSw => ?_⟩) ?_
        rotate_left
        · skip
          first | (go_simp; done) | (go_simp; with_reducible rfl)
        simp only [List.getElem_toArray, List.getElem_cons_succ, List.getElem_cons_zero, Act.put, List.setIfInBounds_toArray, List.set_cons_zero, List.set_cons_succ]
        refine anyG_done (by kernel_rfl) (fun w8 hS _ => ?_) _
        obtain ⟨hpS, hS⟩ := hS
        clear HG
        have PT := Lib.hid (PT.out.pure hpS)
        clear hS hpS
        go_wp2
        go_ret
        exact ⟨rfl, PT.out⟩
      have q0p : (0 : Int) < r := by omega
      have ir : IntKind.i64.wrap ((r : Int) - 1) = ((r - 1 : Nat) : Int) := by rw [IntWalk.i64_in _ (by omega)]; omega
      have im : IntKind.i64.wrap ((r : Int) - (m : Int)) = (r : Int) - (m : Int) := IntWalk.i64_in _ (by omega)
      have qr : (r : Int) < M := by omega
      have qr0 : (0 : Int) ≤ r := by omega
      have hBe := fun W => Be_anyS r 4 W (by omega) (by omega)
      have hb : (beB r 4).length = 4 := beB_length _ _
      obtain ⟨HLN, HJN⟩ := lay_text HL.out HJ.out hr hr0
      have HLN := Lib.hid HLN; have HJN := Lib.hid HJN
      have HSET := Lib.hid (strsV_set L r (N r) (by rw [HL.out]; exact hr))
      have HCLS : Hid (r < (strsV L).length) := Lib.hid (by rw [strsV_length, HL.out]; exact hr)
      obtain ⟨b4, hb4⟩ : ∃ b4, b4 = beB r 4 := ⟨_, rfl⟩
      rw [← hb4] at hBe hb
      obtain ⟨A1, hA1⟩ : ∃ A1, A1 = id ++ b4 := ⟨_, rfl⟩
      have A1l : A1.length = 16 + 4 := by rw [hA1, List.length_append]; first | rfl | omega | (simp [hid, hb]; omega) | simp [hid, hb]
      have aA1 : bstr id ++ bstr b4 = bstr A1 := by rw [hA1]; exact bstr_app id b4
      have zA1 : (bstr A1).size = 16 + 4 := by rw [bstr_size, A1l]
      have nA1 : ¬ (9223372036854775807 < 16 + 4) := by omega
      have zi : (bstr id).size = 16 := by rw [bstr_size, hid]
      have z4 : (bstr b4).size = 4 := by rw [bstr_size, hb]
      have HBE := Lib.hid hBe; have HAX := Lib.hid (And.intro hA1 (And.intro A1l hb4))
      clear hBe hA1 A1l hb4
      go_wp2_with fail
      refine wp_region_G (S := fun w' => Pure wr w' ∧ Held [(g6, Obj.cells C.toArray 45 (0, 0)), (g8, Obj.cells (strsV L).toArray 9 (0, 0))] w') (T := fun _ _ _ => True) (by kernel_rfl) ⟨(Turn.refl _ _).drew, held_cons (show wr.drew.heap[_]? = _ from D6.out) (held_cons (show wr.drew.heap[_]? = _ from D8.out) (held_nil _))⟩ trivial ?_
      have HG := Grow.held wr [(g6, Obj.cells C.toArray 45 (0, 0)), (g8, Obj.cells (strsV L).toArray 9 (0, 0))]
      refine atN 0 ?_
      iterate 3
        refine anyG_y HG (v := ?_) rfl (by kernel_rfl) (fun _ _ _ h => h) (fun _ _ _ => Iff.rfl) (Or.inl ⟨by rfl, fun w hSw => ?_⟩) ?_
        rotate_left
        · skip
          obtain ⟨s0, s1, s2, s3, s4⟩ := HC.out _ _ hSw.2.head
          first | (go_simp; done) | (go_simp; with_reducible rfl)
        simp only [Nat.reduceAdd, List.getElem_toArray, List.getElem_cons_succ, List.getElem_cons_zero, Act.put, List.setIfInBounds_toArray, List.set_cons_zero, List.set_cons_succ]
      refine anyG_c HG (fun w hSw => HBE.out w) rfl (by kernel_rfl) (fun _ _ _ h => h) (fun _ _ _ => Iff.rfl) (by rfl) (fun w hSw => by go_simp; first | done | with_reducible rfl) ?_
      simp only [Nat.reduceAdd, List.getElem_toArray, List.getElem_cons_succ, List.getElem_cons_zero, Act.put, List.setIfInBounds_toArray, List.set_cons_zero, List.set_cons_succ]
      iterate 2
        refine anyG_y HG (v := ?_) rfl (by kernel_rfl) (fun _ _ _ h => h) (fun _ _ _ => Iff.rfl) (Or.inl ⟨by rfl, fun w hSw => ?_⟩) ?_
        rotate_left
        · skip
          first | (go_simp; done) | (go_simp; with_reducible rfl)
        simp only [Nat.reduceAdd, List.getElem_toArray, List.getElem_cons_succ, List.getElem_cons_zero, Act.put, List.setIfInBounds_toArray, List.set_cons_zero, List.set_cons_succ]
      refine anyG_done (by kernel_rfl) (fun w6 hS _ => ?_) _
      obtain ⟨hpS, hS⟩ := hS
      clear HG
      have PT := Lib.hid (PT.out.pure hpS)
      have D6 := Lib.hid hS.head
      have D8 := Lib.hid hS.tail.head
      clear hS hpS
      by_cases hrm : m ≤ r
      case pos =>
        have q1p : (m : Int) ≤ (r : Int) := by omega
        have hcast : (r : Int) - (m : Int) = ((r - m : Nat) : Int) := by omega
        have hNr := HNL.out r hrm
        have HPQ : Hid (∀ W, Calls Try.prog 13 #[.int .i64 3, .string (bstr id), .int .i64 ((r : Int) - (m : Int)), .string (bstr seedk)] W fun e w' => e = .returned (.tuple #[hv (pub (r - m)), .int .i64 0]) ∧ Pure W w') := Lib.hid fun W => by
          rw [hcast]
          exact HPB.out W (r - m) (by omega)
        have hpq := HPL.out (r - m)
        generalize pub (r - m) = pq at HPQ hpq hNr
        obtain ⟨hA1, A1l, hb4⟩ := HAX.out
        rw [tipV, ← hb4] at hNr
        obtain ⟨A2, hA2⟩ : ∃ A2, A2 = A1 ++ [130, 130] := ⟨_, rfl⟩
        have A2l : A2.length = (16 + 4) + 2 := by rw [hA2, List.length_append]; first | rfl | omega | (simp; omega) | simp
        have aA2 : bstr A1 ++ (⟨#[130, 130]⟩ : ByteArray) = bstr A2 := by rw [hA2]; exact bstr_app A1 [130, 130]
        have zA2 : (bstr A2).size = (16 + 4) + 2 := by rw [bstr_size, A2l]
        have nA2 : ¬ (9223372036854775807 < (16 + 4) + 2) := by omega
        obtain ⟨A3, hA3⟩ : ∃ A3, A3 = A2 ++ pq := ⟨_, rfl⟩
        have A3l : A3.length = (16 + 4 + 2) + 32 := by rw [hA3, List.length_append]; first | rfl | omega | (simp; omega) | simp
        have aA3 : bstr A2 ++ bstr pq = bstr A3 := by rw [hA3]; exact bstr_app A2 pq
        have zA3 : (bstr A3).size = (16 + 4 + 2) + 32 := by rw [bstr_size, A3l]
        have nA3 : ¬ (9223372036854775807 < (16 + 4 + 2) + 32) := by omega
        rw [← hA1, ← hA2, ← hA3] at hNr
        have zq : (bstr pq).size = 32 := by rw [bstr_size, hpq]
        have HS := Lib.hid (fun W => Sum_any W A3 (by omega))
        rw [← hNr] at HS
        have HT := Lib.hid (fun W => T_any W pq hpq)
        have HTN := Lib.hid (fun W => T_any W (N r) (HNN.out r))
        clear hNr hcast hA1 hA2 hA3 A1l A2l A3l hb hb4
        obtain ⟨k0, k1, k2, k3, _⟩ := HC.out _ _ D6.out
        go_wp2_with fail
        refine (HPQ.out _).mono ?_
        rintro e w7 ⟨rfl, t7⟩
        have D6 := Lib.hid (t7.obj D6.out (fun e => e)); have D8 := Lib.hid (t7.obj D8.out (fun e => e)); have PT := Lib.hid (PT.out.pure t7)
        clear t7
        clear k0 k1 k2 k3 HPQ
        go_wp2_with (refine wpList_allocZ rfl 23 rfl X HZ.out ?_)
        intro g11 w8 e8 c8 t8 s8
        have l11 : w7.heap.size ≤ g11 := by omega
        clear e8 s8
        go_wp2_with (refine wpList_store_blk rfl 23 _ _ rfl g11 _ (u8s pq) _ rfl rfl c8 (size28 hXl hpq) (info28_l hpq) (u8s_one _) ?_)
        intro w9 c9 t9 _
        have hp9 : Pure w7 w9 := t8.trans t9 fun q hq e => by omega
        have D8 := Lib.hid (hp9.obj D8.out (fun e => e)); have D6 := Lib.hid (hp9.obj D6.out (fun e => e)); have PT := Lib.hid (PT.out.pure hp9); have D11 := Lib.hid c9
        clear c8 t8 c9 t9 hp9 l11
        have R1 := range_of_row D11.out
        go_wp2_with (first | (refine (Num9_any _ _).mono ?_; rintro e wn ⟨rfl, rfl⟩) | (refine wpList_load_mid rfl 23 _ rfl g11 0 rfl (u8s pq) _ R1 Try.underlying23 rfl (info28_l hpq) ?_))
        clear R1
        refine (HT.out _).mono ?_
        rintro e wt ⟨rfl, tt⟩
        have D8 := Lib.hid (tt.obj D8.out (fun e => e)); have D6 := Lib.hid (tt.obj D6.out (fun e => e)); have PT := Lib.hid (PT.out.pure tt)
        clear tt
        go_wp2_with fail
        refine (HS.out _).mono ?_
        rintro e w10 ⟨rfl, t10⟩
        have D8 := Lib.hid (t10.obj D8.out (fun e => e)); have D6 := Lib.hid (t10.obj D6.out (fun e => e)); have PT := Lib.hid (PT.out.pure t10)
        clear t10 D11
        go_wp2_with fail
        refine (HTN.out _).mono ?_
        rintro e wt ⟨rfl, tt⟩
        have D8 := Lib.hid (tt.obj D8.out (fun e => e)); have D6 := Lib.hid (tt.obj D6.out (fun e => e)); have PT := Lib.hid (PT.out.pure tt)
        clear tt
        have c3 : wt.cell? ⟨g8, r, none⟩ = some ((strsV L)[r]'HCLS.out) := by rw [cell_of_row wt g8 r _ _ _ D8.out, List.getElem?_toArray, List.getElem?_eq_getElem HCLS.out]
        have f3 : wt.frozen? ⟨g8, r, none⟩ = false := frozen_of_row wt g8 r _ _ D8.out
        obtain ⟨d3, t9, _⟩ := setAt (i := r) (v := .string (bstr (N r))) D8.out HCLS.out
        rw [HSET.out] at d3
        have D8 := Lib.hid d3; have D6 := Lib.hid (t9.obj D6.out (Ne.symm n8)); have PT := Lib.hid (PT.out.trans t9 fun q hq e => by omega : Pure w _)
        clear d3 t9
        go_wp2
        exact ⟨⟨r - 1, L.set r (N r), by omega, rfl, HLN, HJN, D8, D6, PT⟩, by simp [intOf]; omega⟩
      case neg =>
        have q1p : ¬ (m : Int) ≤ (r : Int) := by omega
        have hM2 := HMM.out
        have hNr := HNI.out r (by omega) (by omega)
        obtain ⟨ra, hra⟩ : ∃ ra, ra = 2 * r := ⟨_, rfl⟩
        rw [← hra] at hNr
        obtain ⟨rb, hrb⟩ : ∃ rb, rb = ra + 1 := ⟨_, rfl⟩
        rw [← hrb] at hNr
        have HA1 := Lib.hid (HJ.out ra (by omega) (by omega))
        have HA2 := Lib.hid (HJ.out rb (by omega) (by omega))
        have ha := HNN.out ra
        have hb2 := HNN.out rb
        have HTN := Lib.hid (fun W => T_any W (N r) (HNN.out r))
        have ia : IntKind.i64.wrap (2 * (r : Int)) = (ra : Int) := by rw [IntWalk.i64_in _ (by omega)]; omega
        have ib : IntKind.i64.wrap ((ra : Int) + 1) = (rb : Int) := by rw [IntWalk.i64_in _ (by omega)]; omega
        have ja : IntKind.i64.wrap (ra : Int) = ra := IntWalk.i64_in _ (by omega)
        have jb : IntKind.i64.wrap (rb : Int) = rb := IntWalk.i64_in _ (by omega)
        have xa : (ra : Int) < M := by omega
        have xb : (rb : Int) < M := by omega
        have xa0 : (0 : Int) ≤ ra := by omega
        have xb0 : (0 : Int) ≤ rb := by omega
        generalize N ra = a at *
        generalize N rb = b at *
        obtain ⟨hA1, A1l, hb4⟩ := HAX.out
        rw [nodV, ← hb4] at hNr
        obtain ⟨A2, hA2⟩ : ∃ A2, A2 = A1 ++ [131, 131] := ⟨_, rfl⟩
        have A2l : A2.length = (16 + 4) + 2 := by rw [hA2, List.length_append]; first | rfl | omega | (simp; omega) | simp
        have aA2 : bstr A1 ++ (⟨#[131, 131]⟩ : ByteArray) = bstr A2 := by rw [hA2]; exact bstr_app A1 [131, 131]
        have zA2 : (bstr A2).size = (16 + 4) + 2 := by rw [bstr_size, A2l]
        have nA2 : ¬ (9223372036854775807 < (16 + 4) + 2) := by omega
        obtain ⟨A3, hA3⟩ : ∃ A3, A3 = A2 ++ a := ⟨_, rfl⟩
        have A3l : A3.length = (16 + 4 + 2) + 32 := by rw [hA3, List.length_append]; first | rfl | omega | (simp; omega) | simp
        have aA3 : bstr A2 ++ bstr a = bstr A3 := by rw [hA3]; exact bstr_app A2 a
        have zA3 : (bstr A3).size = (16 + 4 + 2) + 32 := by rw [bstr_size, A3l]
        have nA3 : ¬ (9223372036854775807 < (16 + 4 + 2) + 32) := by omega
        obtain ⟨A4, hA4⟩ : ∃ A4, A4 = A3 ++ b := ⟨_, rfl⟩
        have A4l : A4.length = (16 + 4 + 2 + 32) + 32 := by rw [hA4, List.length_append]; first | rfl | omega | (simp; omega) | simp
        have aA4 : bstr A3 ++ bstr b = bstr A4 := by rw [hA4]; exact bstr_app A3 b
        have zA4 : (bstr A4).size = (16 + 4 + 2 + 32) + 32 := by rw [bstr_size, A4l]
        have nA4 : ¬ (9223372036854775807 < (16 + 4 + 2 + 32) + 32) := by omega
        rw [← hA1, ← hA2, ← hA3, ← hA4] at hNr
        have za : (bstr a).size = 32 := by rw [bstr_size, ha]
        have zb : (bstr b).size = 32 := by rw [bstr_size, hb2]
        have HS := Lib.hid (fun W => Sum_any W A4 (by omega))
        rw [← hNr] at HS
        clear hNr hA1 hA2 hA3 hA4 A1l A2l A3l A4l hb hra hrb hM2 hb4
        go_wp2_with fail
        refine wp_region_G (S := fun w' => Pure w6 w' ∧ Held [(g6, Obj.cells C.toArray 45 (0, 0)), (g8, Obj.cells (strsV L).toArray 9 (0, 0))] w') (T := fun _ _ _ => True) (by kernel_rfl) ⟨(Turn.refl _ _).drew, held_cons (show w6.drew.heap[_]? = _ from D6.out) (held_cons (show w6.drew.heap[_]? = _ from D8.out) (held_nil _))⟩ trivial ?_
        have HG := Grow.held w6 [(g6, Obj.cells C.toArray 45 (0, 0)), (g8, Obj.cells (strsV L).toArray 9 (0, 0))]
        refine atN 0 ?_
        iterate 8
          refine anyG_y HG (v := ?_) rfl (by kernel_rfl) (fun _ _ _ h => h) (fun _ _ _ => Iff.rfl) (Or.inl ⟨by rfl, fun w hSw => ?_⟩) ?_
          rotate_left
          · skip
            first | (go_simp; done) | (go_simp; with_reducible rfl)
          simp only [Nat.reduceAdd, List.getElem_toArray, List.getElem_cons_succ, List.getElem_cons_zero, Act.put, List.setIfInBounds_toArray, List.set_cons_zero, List.set_cons_succ]
        iterate 1
          refine anyG_y HG (v := ?_) rfl (by kernel_rfl) (fun _ _ _ h => h) (fun _ _ _ => Iff.rfl) (Or.inl ⟨by rfl, fun w hSw => ?_⟩) ?_
          rotate_left
          · skip
            have ca := strs_cell HA1.out hSw.2.tail.head
            first | (go_simp; done) | (go_simp; with_reducible rfl)
          simp only [Nat.reduceAdd, List.getElem_toArray, List.getElem_cons_succ, List.getElem_cons_zero, Act.put, List.setIfInBounds_toArray, List.set_cons_zero, List.set_cons_succ]
        iterate 6
          refine anyG_y HG (v := ?_) rfl (by kernel_rfl) (fun _ _ _ h => h) (fun _ _ _ => Iff.rfl) (Or.inl ⟨by rfl, fun w hSw => ?_⟩) ?_
          rotate_left
          · skip
            first | (go_simp; done) | (go_simp; with_reducible rfl)
          simp only [Nat.reduceAdd, List.getElem_toArray, List.getElem_cons_succ, List.getElem_cons_zero, Act.put, List.setIfInBounds_toArray, List.set_cons_zero, List.set_cons_succ]
        iterate 1
          refine anyG_y HG (v := ?_) rfl (by kernel_rfl) (fun _ _ _ h => h) (fun _ _ _ => Iff.rfl) (Or.inl ⟨by rfl, fun w hSw => ?_⟩) ?_
          rotate_left
          · skip
            have cb := strs_cell HA2.out hSw.2.tail.head
            first | (go_simp; done) | (go_simp; with_reducible rfl)
          simp only [Nat.reduceAdd, List.getElem_toArray, List.getElem_cons_succ, List.getElem_cons_zero, Act.put, List.setIfInBounds_toArray, List.set_cons_zero, List.set_cons_succ]
        iterate 1
          refine anyG_y HG (v := ?_) rfl (by kernel_rfl) (fun _ _ _ h => h) (fun _ _ _ => Iff.rfl) (Or.inl ⟨by rfl, fun w hSw => ?_⟩) ?_
          rotate_left
          · skip
            first | (go_simp; done) | (go_simp; with_reducible rfl)
          simp only [Nat.reduceAdd, List.getElem_toArray, List.getElem_cons_succ, List.getElem_cons_zero, Act.put, List.setIfInBounds_toArray, List.set_cons_zero, List.set_cons_succ]
        refine anyG_c HG (fun w hSw => HS.out w) rfl (by kernel_rfl) (fun _ _ _ h => h) (fun _ _ _ => Iff.rfl) (by rfl) (fun w hSw => by go_simp; first | done | with_reducible rfl) ?_
        simp only [Nat.reduceAdd, List.getElem_toArray, List.getElem_cons_succ, List.getElem_cons_zero, Act.put, List.setIfInBounds_toArray, List.set_cons_zero, List.set_cons_succ]
        refine anyG_c HG (fun w hSw => HTN.out w) rfl (by kernel_rfl) (fun _ _ _ h => h) (fun _ _ _ => Iff.rfl) (by rfl) (fun w hSw => by go_simp; first | done | with_reducible rfl) ?_
        simp only [Nat.reduceAdd, List.getElem_toArray, List.getElem_cons_succ, List.getElem_cons_zero, Act.put, List.setIfInBounds_toArray, List.set_cons_zero, List.set_cons_succ]
        iterate 1
          refine anyG_y HG (v := ?_) rfl (by kernel_rfl) (fun _ _ _ h => h) (fun _ _ _ => Iff.rfl) (Or.inl ⟨by rfl, fun w hSw => ?_⟩) ?_
          rotate_left
          · skip
            first | (go_simp; done) | (go_simp; with_reducible rfl)
          simp only [Nat.reduceAdd, List.getElem_toArray, List.getElem_cons_succ, List.getElem_cons_zero, Act.put, List.setIfInBounds_toArray, List.set_cons_zero, List.set_cons_succ]
        refine anyG_tail [20] (k := 20) (by kernel_rfl) (fun w10 hS _ => ?_)
        simp only [List.filterMap_cons, List.filterMap_nil, List.getElem?_toArray, List.getElem?_cons_succ, List.getElem?_cons_zero]
        obtain ⟨hpS, hS⟩ := hS
        clear HG
        have PT := Lib.hid (PT.out.pure hpS)
        have D6 := Lib.hid hS.head
        have D8 := Lib.hid hS.tail.head
        clear hS hpS
        have c3 : w10.cell? ⟨g8, r, none⟩ = some ((strsV L)[r]'HCLS.out) := by rw [cell_of_row w10 g8 r _ _ _ D8.out, List.getElem?_toArray, List.getElem?_eq_getElem HCLS.out]
        have f3 : w10.frozen? ⟨g8, r, none⟩ = false := frozen_of_row w10 g8 r _ _ D8.out
        obtain ⟨d3, t9, _⟩ := setAt (i := r) (v := .string (bstr (N r))) D8.out HCLS.out
        rw [HSET.out] at d3
        have D8 := Lib.hid d3; have D6 := Lib.hid (t9.obj D6.out (Ne.symm n8)); have PT := Lib.hid (PT.out.trans t9 fun q hq e => by omega : Pure w _)
        clear d3 t9
        go_wp2
        exact ⟨⟨r - 1, L.set r (N r), by omega, rfl, HLN, HJN, D8, D6, PT⟩, by simp [intOf]; omega⟩
end Go.Proofs.Ytmifchdmlbcclaa
