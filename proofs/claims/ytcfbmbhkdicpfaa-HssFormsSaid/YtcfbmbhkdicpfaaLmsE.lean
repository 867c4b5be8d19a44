/- Chapter 5: signatures taken apart. -/
import Derived.Test.YtcfbmbhkdicpfaaLms8
import Derived.Test.YtcfbmbhkdicpfaaLmsD
namespace Go.Proofs.Ytcfbmbhkdicpfaa
open Go.RowKit

theorem far_nil {g : Nat} : ∀ q ∈ ([] : List (Nat × Obj)), q.1 ≠ g := fun _ h => nomatch h
theorem far_cons {g : Nat} {p : Nat × Obj} {L : List (Nat × Obj)} (h : p.1 ≠ g) (hL : ∀ q ∈ L, q.1 ≠ g) : ∀ q ∈ p :: L, q.1 ≠ g := fun q hq => by
  rcases List.mem_cons.1 hq with rfl | hq
  · exact h
  · exact hL q hq
/-- A signature taken apart. -/
structure Parts where
  q : Nat
  sign : List UInt8
  path : List UInt8
def ptC (p : Parts) : List Value := [.int .i64 (p.q : Int), .string (bstr p.sign), .string (bstr p.path)]
def Parts0 : Parts := ⟨0, [], []⟩
theorem zeroPT : (Try.prog.info? 92).bind (·.zero) = some (.agg (ptC Parts0).toArray) := by kernel_rfl
theorem infoPT : (Try.prog.info? 92).map (·.size) = some 3 := by kernel_rfl
theorem ptC_one (k : Parts) : ∀ v ∈ ptC k, v.oneCell' = true := by
  intro v hv
  simp only [ptC, List.mem_cons, List.mem_nil_iff, or_false] at hv
  rcases hv with rfl | rfl | rfl <;> rfl
theorem pt_cells {p : Parts} {W : World} {g : Nat} (hg : W.heap[g]? = some (.cells (ptC p).toArray 92 (0, 0))) : W.cell? ⟨g, 0, none⟩ = some (.int .i64 (p.q : Int)) ∧ W.cell? ⟨g, 1, none⟩ = some (.string (bstr p.sign)) ∧ W.cell? ⟨g, 2, none⟩ = some (.string (bstr p.path)) := by
  rw [cell_of_row W g 0 _ _ _ hg, cell_of_row W g 1 _ _ _ hg, cell_of_row W g 2 _ _ _ hg]
  exact ⟨rfl, rfl, rfl⟩
/-- How long a one-time signature of a kind is. -/
def otsSize (k : Int) : Nat := 36 + 32 * (parV k).2.1
def partsV (k : PKey) (s : List UInt8) : Parts × Bool :=
  if s.length = pkSize k then (⟨n4 s, (s.drop 4).take (otsSize k.ots), s.drop (8 + otsSize k.ots)⟩,
    (kindSV ((s.drop 4).take (otsSize k.ots))).2 && ((kindSV ((s.drop 4).take (otsSize k.ots))).1 == k.ots) && ((n4 (s.drop (4 + otsSize k.ots)) : Int) == typeV k.height) && decide (n4 s < 2 ^ k.height))
  else (Parts0, false)

set_option maxRecDepth 100000 in
set_option maxHeartbeats 4000000 in
theorem apart_any (w : World) (k : PKey) (s : List UInt8) (hs : s.length ≤ 140737488351232) (hk1 : 1 ≤ k.height) (hk5 : k.height ≤ 5) : Calls Try.prog 49 #[.agg (pkC k).toArray, .string (bstr s)] w fun e w' =>
    e = .returned (.tuple #[.agg (ptC (partsV k s).1).toArray, .bool (partsV k s).2]) ∧ Pure w w' := by
  have zs0 := bstr_size s
  have hsz := fun W => KeySize_any W k hk5
  have HC := Lib.hid (fun W g => @pk_cells k W g)
  have hCl : (pkC k).length = 4 := rfl
  obtain ⟨C, hC⟩ : ∃ C, C = pkC k := ⟨_, rfl⟩
  rw [← hC] at HC hsz hCl ⊢
  have HCI : Hid ((Try.prog.info? 88).map (·.size) = some C.length) := Lib.hid (by rw [hCl]; exact infoPK)
  clear hC hCl
  have hps : pkSize k = 8 + otsSize k.ots + 32 * k.height := rfl
  by_cases hl : s.length = pkSize k
  · rw [partsV, if_pos hl]
    have hPk : pkSize k ≤ 3000 := by have := parV_le k.ots; rw [hps, otsSize]; omega
    have hosz := fun W => Size_any W k.ots
    have e0 : ((36 + 32 * (parV k.ots).2.1 : Nat) : Int) = ((otsSize k.ots : Nat) : Int) := rfl
    rw [e0] at hosz
    clear e0
    have hn0 : 36 ≤ otsSize k.ots := by rw [otsSize]; omega
    generalize otsSize k.ots = n at *
    generalize pkSize k = Z at *
    have ho1 := fun W => Open_any W s (by omega)
    have hr1 := fun W g (h : IsRd 177 W g s) => RNum4 (by omega) h
    obtain ⟨s2, hs2⟩ : ∃ s2, s2 = s.drop (4 + n) := ⟨_, rfl⟩
    have hs2l : 4 ≤ s2.length := by rw [hs2, List.length_drop]; omega
    have ho2 := fun W => Open_any W s2 (by rw [hs2, List.length_drop]; omega)
    have hr2 := fun W g (h : IsRd 177 W g s2) => RNum4 hs2l h
    obtain ⟨X, hX⟩ : ∃ X, X = (s.drop 4).take n := ⟨_, rfl⟩
    obtain ⟨Y, hY⟩ : ∃ Y, Y = s.drop (8 + n) := ⟨_, rfl⟩
    have hkd := fun W => Kind_any W X (by rw [hX]; simp; omega)
    obtain ⟨a1, ha1⟩ : ∃ a1, a1 = 4 + n := ⟨_, rfl⟩
    obtain ⟨a2, ha2⟩ : ∃ a2, a2 = 8 + n := ⟨_, rfl⟩
    rw [hl] at zs0
    have ex1 : (bstr s).extract 4 a1 = bstr X := by rw [bstr_ext, hX, List.drop_take, ha1]; congr 2; omega
    have ex2 : (bstr s).extract a2 Z = bstr Y := by rw [bstr_ext, hY, List.take_of_length_le (by omega), ha2]
    have ex3 : (bstr s).extract a1 Z = bstr s2 := by rw [bstr_ext, hs2, List.take_of_length_le (by omega), ha1]
    have b1 : (a1 : Int) ≤ Z := by omega
    have b2 : (a2 : Int) ≤ Z := by omega
    have b3 : (4 : Int) ≤ a1 := by omega
    have b0 : (0 : Int) ≤ a2 := by omega
    have b01 : (0 : Int) ≤ a1 := by omega
    have HI : Hid (IntKind.i64.wrap (4 + (n : Int)) = (a1 : Int) ∧ IntKind.i64.wrap (8 + (n : Int)) = (a2 : Int) ∧ IntKind.i64.wrap (a1 : Int) = a1 ∧ IntKind.i64.wrap (a2 : Int) = a2) := Lib.hid ⟨by rw [IntWalk.i64_in _ (by omega)]; omega, by rw [IntWalk.i64_in _ (by omega)]; omega, IntWalk.i64_in _ (by omega), IntWalk.i64_in _ (by omega)⟩
    have HI3 : Hid (wrap64 (4 + (n : Int)) = (a1 : Int)) := Lib.hid (by unfold wrap64; omega)
    rw [← hs2, ← hX, ← hY]
    have hty := fun W => Calls.pureEq (typeOf_any W (k.height : Int) (by omega) (by omega))
    have hh5 : k.height = 1 ∨ k.height = 2 ∨ k.height = 3 ∨ k.height = 4 ∨ k.height = 5 := by omega
    have hsh1 := may_sh1 k.height hh5
    have hsh2 := may_sh2 k.height hh5
    have hsh3 := may_sh3 k.height hh5
    have hp0 : ((2 ^ k.height : Nat) : Int) = (2 : Int) ^ k.height := by rw [Int.natCast_pow]; rfl
    have hm32 : 2 ^ k.height ≤ 32 := by rcases hh5 with e | e | e | e | e <;> rw [e] <;> decide
    obtain ⟨m, hm⟩ : ∃ m, m = 2 ^ k.height := ⟨_, rfl⟩
    rw [← hm] at hp0 hm32 ⊢
    replace hsh1 : wrap64 ((2 : Int) ^ k.height) = (m : Int) := by rw [hp0]; exact hsh1
    replace hsh2 : IntKind.i64.wrap ((2 : Int) ^ k.height) = (m : Int) := by rw [hp0]; exact hsh2
    replace hsh3 : IntKind.i64.wrap ((2 : Int) ^ min k.height 64) = (m : Int) := by rw [hp0]; exact hsh3
    have HSH := Lib.hid (And.intro hsh1 (And.intro hsh2 hsh3))
    have hq := n4_lt s
    have ht := n4_lt s2
    generalize n4 s = q at *
    generalize n4 s2 = t at *
    generalize (kindSV X).1 = K1 at *
    generalize (kindSV X).2 = B1 at *
    generalize typeV (k.height : Int) = TV at *
    obtain ⟨height, ots, id, root⟩ := k
    simp only at HC hosz hty hsh1 hsh2 hsh3 HSH hk1 hk5
    have HSZ := Lib.hid hsz; have HOS := Lib.hid hosz; have HO1 := Lib.hid ho1; have HR1 := Lib.hid hr1; have HO2 := Lib.hid ho2; have HR2 := Lib.hid hr2; have HKD := Lib.hid hkd; have HTY := Lib.hid hty
    have q1 : ((Z : Int) != (Z : Int)) = false := by simp
    clear hsz hosz ho1 hr1 ho2 hr2 hkd hty hsh1 hsh2 hsh3 hh5 hp0 hm hX hY hs2 ha1 ha2 hl hps hs2l hs hn0
    simp only
    cases B1 with
    | false =>
      have HV : Hid ((false && (K1 == ots) && ((t : Int) == TV) && decide (q < m)) = false) := Lib.hid (by simp)
      go_enter Try.func49, Try.ntmps49
      go_wp2_with (refine wpList_boxV rfl 88 _ rfl C rfl ?_)
      intro g2 w1 e1 c1 t1 s1
      have l2 : w.heap.size ≤ g2 := by omega
      clear e1 s1
      have D2 := Lib.hid c1; have PT := Lib.hid t1
      clear c1 t1
      go_wp2_with (refine wpList_allocZ rfl 92 rfl _ zeroPT ?_)
      intro g4 w2 e2 c2 t2 s2x
      have l4 : w.heap.size ≤ g4 := by have := PT.out.size; omega
      have n42 : g4 ≠ g2 := by have := (Array.getElem?_eq_some_iff.1 D2.out).1; omega
      clear e2 s2x
      have D4 := Lib.hid c2; have D2 := Lib.hid (t2.obj D2.out (fun e => e)); have PT := Lib.hid (PT.out.pure t2)
      clear c2 t2
      have R1 := range_of_row D2.out
      go_wp2_with (refine wpList_load_mid rfl 88 _ rfl g2 0 rfl C _ R1 Try.underlying88 rfl HCI.out ?_)
      clear R1
      refine (HSZ.out _).mono ?_
      rintro e w3 ⟨rfl, t3⟩
      have D2 := Lib.hid (t3.obj D2.out (fun e => e)); have D4 := Lib.hid (t3.obj D4.out (fun e => e)); have PT := Lib.hid (PT.out.pure t3)
      clear t3
      obtain ⟨k0, k1, k2, k3⟩ := HC.out _ _ D2.out
      go_wp2_with fail
      refine (HOS.out _).mono ?_
      rintro e w4 ⟨rfl, t4⟩
      have D2 := Lib.hid (t4.obj D2.out (fun e => e)); have D4 := Lib.hid (t4.obj D4.out (fun e => e)); have PT := Lib.hid (PT.out.pure t4)
      clear t4 k0 k1 k2 k3
      have lg := PT.out.size
      go_wp2_with fail
      refine (HO1.out _).mono ?_
      rintro e w5 ⟨rfl, r5, t5⟩
      have n2 : g2 ≠ w4.heap.size := by have := (Array.getElem?_eq_some_iff.1 D2.out).1; omega
      have n4' : g4 ≠ w4.heap.size := by have := (Array.getElem?_eq_some_iff.1 D4.out).1; omega
      have D2 := Lib.hid (t5.obj D2.out (fun e => e)); have D4 := Lib.hid (t5.obj D4.out (fun e => e)); have PT := Lib.hid (PT.out.pure t5); have HR := Lib.hid r5
      generalize w4.heap.size = gr at *
      clear t5 r5
      go_wp2_with fail
      refine (HR1.out _ _ HR.out).mono ?_
      rintro e w6 ⟨rfl, r6⟩
      have D2 := Lib.hid (r6.turn.obj D2.out n2); have D4 := Lib.hid (r6.turn.obj D4.out n4'); have PT := Lib.hid (PT.out.newer r6.turn lg : Pure w w6)
      have P6S : Hid (w.heap.size ≤ w6.heap.size) := Lib.hid PT.out.size
      have N6 : Hid (g2 < w6.heap.size ∧ g4 < w6.heap.size) := Lib.hid ⟨(Array.getElem?_eq_some_iff.1 D2.out).1, (Array.getElem?_eq_some_iff.1 D4.out).1⟩
      clear r6 HR n2 n4' lg
      go_wp2_with fail
      refine wp_region_G (S := fun w' => Pure w6 w' ∧ Held [(g2, Obj.cells C.toArray 88 (0, 0)), (g4, Obj.cells (ptC Parts0).toArray 92 (0, 0))] w') (T := NewAt 10 w6.heap.size (Obj.cells (ptC Parts0).toArray 92 (0, 0))) (by kernel_rfl) ⟨(Turn.refl _ _).drew, held_cons (show w6.drew.heap[_]? = _ from D2.out) (held_cons (show w6.drew.heap[_]? = _ from D4.out) (held_nil _))⟩ (fun g h hB => nomatch h) ?_
      have HG := Grow.heldNew w6 [(g2, Obj.cells C.toArray 88 (0, 0)), (g4, Obj.cells (ptC Parts0).toArray 92 (0, 0))] 10 w6.heap.size (Obj.cells (ptC Parts0).toArray 92 (0, 0))
      refine atN 0 ?_
      iterate 3
        refine anyG_y HG (v := ?_) rfl (by kernel_rfl) (fun _ _ _ h => h) (NewAt.ins (by decide)) (Or.inl ⟨by rfl, fun w hSw => ?_⟩) ?_
        rotate_left
        · skip
          first | (go_simp; done) | (go_simp; with_reducible rfl)
        simp only [Nat.reduceAdd, AP]
      refine atN 3 ?_
      iterate 2
        refine anyG_y HG (v := ?_) rfl (by kernel_rfl) (fun _ _ _ h => h) (NewAt.ins (by decide)) (Or.inl ⟨by rfl, fun w hSw => ?_⟩) ?_
        rotate_left
        · obtain ⟨i1, i2, b4, b5⟩ := HI.out
          first | (go_simp; done) | (go_simp; with_reducible rfl)
        simp only [Nat.reduceAdd, AP]
      refine atN 5 ?_
      iterate 2
        refine anyG_y HG (v := ?_) rfl (by kernel_rfl) (fun _ _ _ h => h) (NewAt.ins (by decide)) (Or.inl ⟨by rfl, fun w hSw => ?_⟩) ?_
        rotate_left
        · skip
          first | (go_simp; done) | (go_simp; with_reducible rfl)
        simp only [Nat.reduceAdd, AP]
      refine atN 7 ?_
      iterate 2
        refine anyG_y HG (v := ?_) rfl (by kernel_rfl) (fun _ _ _ h => h) (NewAt.ins (by decide)) (Or.inl ⟨by rfl, fun w hSw => ?_⟩) ?_
        rotate_left
        · obtain ⟨i1, i2, b4, b5⟩ := HI.out
          first | (go_simp; done) | (go_simp; with_reducible rfl)
        simp only [Nat.reduceAdd, AP]
      refine atN 9 ?_
      refine anyG_y HG (v := ?_) rfl (by kernel_rfl) (fun _ _ _ h => h) (NewAt.ins (by decide)) (Or.inl ⟨by rfl, fun w hSw => ?_⟩) ?_
      rotate_left
      · skip
        first | (go_simp; done) | (go_simp; with_reducible rfl)
      simp only [Nat.reduceAdd, AP]
      refine anyG_alloc HG (i := 10) (by kernel_rfl) rfl rfl rfl rfl zeroPT (fun w h => h.1.size) (by simp) (fun g10 lg10 => ?_)
      simp only [Act.put, List.setIfInBounds_toArray, List.set_cons_zero, List.set_cons_succ]
      refine anyG_tail [11] (k := 11) (by kernel_rfl) (fun w7 hS hT => ?_)
      simp only [List.filterMap_cons, List.filterMap_nil, List.getElem?_toArray, List.getElem?_cons_succ, List.getElem?_cons_zero]
      obtain ⟨hpS, hS⟩ := hS
      clear HG
      have PT := Lib.hid (PT.out.pure hpS)
      have D2 := Lib.hid hS.head
      have D4 := Lib.hid hS.tail.head
      clear hS hpS
      have DX := Lib.hid (hT g10 rfl lg10)
      clear hT
      refine wpList_store_blk rfl 92 _ _ rfl g10 _ (ptC ⟨q, X, Y⟩) _ rfl rfl DX.out rfl infoPT (ptC_one _) ?_
      intro w8 d8 t8 s8
      clear s8
      have n102 : g2 ≠ g10 := by have := N6.out.1; omega
      have n104 : g4 ≠ g10 := by have := N6.out.2; omega
      have DX := Lib.hid d8; have D2 := Lib.hid (t8.obj D2.out n102); have D4 := Lib.hid (t8.obj D4.out n104)
      have PT := Lib.hid (PT.out.newer t8 (Nat.le_trans P6S.out lg10) : Pure w w8)
      clear d8 t8 P6S N6 lg10 n102
      have lg := PT.out.size
      have i3 := HI3.out
      go_wp2_with fail
      clear i3
      refine (HO2.out _).mono ?_
      rintro e w9 ⟨rfl, r9, t9⟩
      have n2 : g2 ≠ w8.heap.size := by have := (Array.getElem?_eq_some_iff.1 D2.out).1; omega
      have n4' : g4 ≠ w8.heap.size := by have := (Array.getElem?_eq_some_iff.1 D4.out).1; omega
      have nX : g10 ≠ w8.heap.size := by have := (Array.getElem?_eq_some_iff.1 DX.out).1; omega
      have D2 := Lib.hid (t9.obj D2.out (fun e => e)); have D4 := Lib.hid (t9.obj D4.out (fun e => e)); have DX := Lib.hid (t9.obj DX.out (fun e => e)); have PT := Lib.hid (PT.out.pure t9); have HR := Lib.hid r9
      generalize w8.heap.size = gr2 at *
      clear t9 r9
      go_wp2_with fail
      refine (HR2.out _ _ HR.out).mono ?_
      rintro e w10 ⟨rfl, r10⟩
      have D2 := Lib.hid (r10.turn.obj D2.out n2); have D4 := Lib.hid (r10.turn.obj D4.out n4'); have DX := Lib.hid (r10.turn.obj DX.out nX); have PT := Lib.hid (PT.out.newer r10.turn lg : Pure w w10)
      clear r10 HR n2 n4' nX lg
      obtain ⟨x0, x1, x2⟩ := pt_cells DX.out
      go_wp2_with fail
      refine (HKD.out _).mono ?_
      rintro e w11 ⟨rfl, t11⟩
      have D2 := Lib.hid (t11.obj D2.out (fun e => e)); have D4 := Lib.hid (t11.obj D4.out (fun e => e)); have DX := Lib.hid (t11.obj DX.out (fun e => e)); have PT := Lib.hid (PT.out.pure t11)
      clear t11 x0 x1 x2
      go_wp2_with fail
      refine wp_region_G (S := fun w' => Turn (fun k => k = g4) w11 w' ∧ Held [(g2, Obj.cells C.toArray 88 (0, 0)), (g10, Obj.cells (ptC ⟨q, X, Y⟩).toArray 92 (0, 0))] w') (T := StoreAt 22 g4 (Obj.cells (ptC Parts0).toArray 92 (0, 0)) (Obj.cells (ptC ⟨q, X, Y⟩).toArray 92 (0, 0))) (by kernel_rfl) ⟨(Turn.refl _ _).drew, held_cons (show w11.drew.heap[_]? = _ from D2.out) (held_cons (show w11.drew.heap[_]? = _ from DX.out) (held_nil _))⟩ (show w11.drew.heap[g4]? = _ from D4.out) ?_
      have HG := Grow.store w11 [(g2, Obj.cells C.toArray 88 (0, 0)), (g10, Obj.cells (ptC ⟨q, X, Y⟩).toArray 92 (0, 0))] 22 g4 (Obj.cells (ptC Parts0).toArray 92 (0, 0)) (Obj.cells (ptC ⟨q, X, Y⟩).toArray 92 (0, 0))
      refine anyG_take HG (i := 0) (v := Value.agg (ptC ⟨q, X, Y⟩).toArray) rfl (by kernel_rfl) (by kernel_rfl) (by kernel_rfl) (fun _ _ _ h => h) (StoreAt.ins (by decide)) (yieldsIf_load_mid (by rfl) 92 _ rfl g10 0 rfl (ptC ⟨q, X, Y⟩) _ (fun w hSw => range_of_row hSw.2.tail.head) Try.underlying92 rfl infoPT) ?_
      simp only [AP]
      refine atN 1 ?_
      iterate 2
        refine anyG_y HG (v := ?_) rfl (by kernel_rfl) (fun _ _ _ h => h) (StoreAt.ins (by decide)) (Or.inl ⟨by rfl, fun w hSw => ?_⟩) ?_
        rotate_left
        · skip
          first | (go_simp; done) | (go_simp; with_reducible rfl)
        simp only [Nat.reduceAdd, AP]
      refine atN 3 ?_
      iterate 4
        refine anyG_y HG (v := undef) rfl (by kernel_rfl) (fun _ _ _ h => h) (StoreAt.ins (by decide)) (Or.inr ⟨by rfl, rfl⟩) ?_
        simp only [Nat.reduceAdd, AP]
      refine atN 7 ?_
      iterate 2
        refine anyG_y HG (v := ?_) rfl (by kernel_rfl) (fun _ _ _ h => h) (StoreAt.ins (by decide)) (Or.inl ⟨by rfl, fun w hSw => ?_⟩) ?_
        rotate_left
        · skip
          first | (go_simp; done) | (go_simp; with_reducible rfl)
        simp only [Nat.reduceAdd, AP]
      refine atN 9 ?_
      iterate 5
        refine anyG_y HG (v := undef) rfl (by kernel_rfl) (fun _ _ _ h => h) (StoreAt.ins (by decide)) (Or.inr ⟨by rfl, rfl⟩) ?_
        simp only [Nat.reduceAdd, AP]
      refine atN 14 ?_
      iterate 2
        refine anyG_y HG (v := ?_) rfl (by kernel_rfl) (fun _ _ _ h => h) (StoreAt.ins (by decide)) (Or.inl ⟨by rfl, fun w hSw => ?_⟩) ?_
        rotate_left
        · skip
          first | (go_simp; done) | (go_simp; with_reducible rfl)
        simp only [Nat.reduceAdd, AP]
      refine atN 16 ?_
      iterate 5
        refine anyG_y HG (v := undef) rfl (by kernel_rfl) (fun _ _ _ h => h) (StoreAt.ins (by decide)) (Or.inr ⟨by rfl, rfl⟩) ?_
        simp only [Nat.reduceAdd, AP]
      refine atN 21 ?_
      refine anyG_y HG (v := ?_) rfl (by kernel_rfl) (fun _ _ _ h => h) (StoreAt.ins (by decide)) (Or.inl ⟨by rfl, fun w hSw => ?_⟩) ?_
      rotate_left
      · skip
        first | (go_simp; done) | (go_simp; with_reducible rfl)
      simp only [Nat.reduceAdd, AP]
      refine anyG_store (i := 22) (by kernel_rfl) rfl rfl rfl rfl rfl rfl infoPT (ptC_one _) (far_cons (Ne.symm n42) (far_cons (Ne.symm n104) far_nil)) ?_
      simp only [Act.put]
      refine atN 23 ?_
      refine anyG_y HG (v := ?_) rfl (by kernel_rfl) (fun _ _ _ h => h) (StoreAt.ins (by decide)) (Or.inl ⟨by rfl, fun w hSw => ?_⟩) ?_
      rotate_left
      · skip
        first | (go_simp; done) | (go_simp; with_reducible rfl)
      simp only [Nat.reduceAdd, AP]
      refine anyG_done (by kernel_rfl) (fun w12 hS hT => ?_) _
      obtain ⟨hpS, hS⟩ := hS
      clear HG
      have PT := Lib.hid (PT.out.newer hpS l4)
      have D4 := Lib.hid (show w12.heap[g4]? = _ from hT)
      clear hS hT hpS
      go_wp2
      exact bodyPost_ret (v := .tuple #[.agg (ptC ⟨q, X, Y⟩).toArray, .bool false]) (results_cell2 Try.results49 _ _ g4 _ _ _ _ rfl D4.out Try.underlying92 rfl infoPT) rfl ⟨by first | rfl | (rw [HV.out]), PT.out⟩
    | true =>
      by_cases h2 : K1 = ots
      case neg =>
        have d2 : (K1 == ots) = false := by simpa using h2
        have HV : Hid ((true && (K1 == ots) && ((t : Int) == TV) && decide (q < m)) = false) := Lib.hid (by rw [d2]; simp)
        clear h2
        go_enter Try.func49, Try.ntmps49
        go_wp2_with (refine wpList_boxV rfl 88 _ rfl C rfl ?_)
        intro g2 w1 e1 c1 t1 s1
        have l2 : w.heap.size ≤ g2 := by omega
        clear e1 s1
        have D2 := Lib.hid c1; have PT := Lib.hid t1
        clear c1 t1
        go_wp2_with (refine wpList_allocZ rfl 92 rfl _ zeroPT ?_)
        intro g4 w2 e2 c2 t2 s2x
        have l4 : w.heap.size ≤ g4 := by have := PT.out.size; omega
        have n42 : g4 ≠ g2 := by have := (Array.getElem?_eq_some_iff.1 D2.out).1; omega
        clear e2 s2x
        have D4 := Lib.hid c2; have D2 := Lib.hid (t2.obj D2.out (fun e => e)); have PT := Lib.hid (PT.out.pure t2)
        clear c2 t2
        have R1 := range_of_row D2.out
        go_wp2_with (refine wpList_load_mid rfl 88 _ rfl g2 0 rfl C _ R1 Try.underlying88 rfl HCI.out ?_)
        clear R1
        refine (HSZ.out _).mono ?_
        rintro e w3 ⟨rfl, t3⟩
        have D2 := Lib.hid (t3.obj D2.out (fun e => e)); have D4 := Lib.hid (t3.obj D4.out (fun e => e)); have PT := Lib.hid (PT.out.pure t3)
        clear t3
        obtain ⟨k0, k1, k2, k3⟩ := HC.out _ _ D2.out
        go_wp2_with fail
        refine (HOS.out _).mono ?_
        rintro e w4 ⟨rfl, t4⟩
        have D2 := Lib.hid (t4.obj D2.out (fun e => e)); have D4 := Lib.hid (t4.obj D4.out (fun e => e)); have PT := Lib.hid (PT.out.pure t4)
        clear t4 k0 k1 k2 k3
        have lg := PT.out.size
        go_wp2_with fail
        refine (HO1.out _).mono ?_
        rintro e w5 ⟨rfl, r5, t5⟩
        have n2 : g2 ≠ w4.heap.size := by have := (Array.getElem?_eq_some_iff.1 D2.out).1; omega
        have n4' : g4 ≠ w4.heap.size := by have := (Array.getElem?_eq_some_iff.1 D4.out).1; omega
        have D2 := Lib.hid (t5.obj D2.out (fun e => e)); have D4 := Lib.hid (t5.obj D4.out (fun e => e)); have PT := Lib.hid (PT.out.pure t5); have HR := Lib.hid r5
        generalize w4.heap.size = gr at *
        clear t5 r5
        go_wp2_with fail
        refine (HR1.out _ _ HR.out).mono ?_
        rintro e w6 ⟨rfl, r6⟩
        have D2 := Lib.hid (r6.turn.obj D2.out n2); have D4 := Lib.hid (r6.turn.obj D4.out n4'); have PT := Lib.hid (PT.out.newer r6.turn lg : Pure w w6)
        have P6S : Hid (w.heap.size ≤ w6.heap.size) := Lib.hid PT.out.size
        have N6 : Hid (g2 < w6.heap.size ∧ g4 < w6.heap.size) := Lib.hid ⟨(Array.getElem?_eq_some_iff.1 D2.out).1, (Array.getElem?_eq_some_iff.1 D4.out).1⟩
        clear r6 HR n2 n4' lg
        go_wp2_with fail
        refine wp_region_G (S := fun w' => Pure w6 w' ∧ Held [(g2, Obj.cells C.toArray 88 (0, 0)), (g4, Obj.cells (ptC Parts0).toArray 92 (0, 0))] w') (T := NewAt 10 w6.heap.size (Obj.cells (ptC Parts0).toArray 92 (0, 0))) (by kernel_rfl) ⟨(Turn.refl _ _).drew, held_cons (show w6.drew.heap[_]? = _ from D2.out) (held_cons (show w6.drew.heap[_]? = _ from D4.out) (held_nil _))⟩ (fun g h hB => nomatch h) ?_
        have HG := Grow.heldNew w6 [(g2, Obj.cells C.toArray 88 (0, 0)), (g4, Obj.cells (ptC Parts0).toArray 92 (0, 0))] 10 w6.heap.size (Obj.cells (ptC Parts0).toArray 92 (0, 0))
        refine atN 0 ?_
        iterate 3
          refine anyG_y HG (v := ?_) rfl (by kernel_rfl) (fun _ _ _ h => h) (NewAt.ins (by decide)) (Or.inl ⟨by rfl, fun w hSw => ?_⟩) ?_
          rotate_left
          · skip
            first | (go_simp; done) | (go_simp; with_reducible rfl)
          simp only [Nat.reduceAdd, AP]
        refine atN 3 ?_
        iterate 2
          refine anyG_y HG (v := ?_) rfl (by kernel_rfl) (fun _ _ _ h => h) (NewAt.ins (by decide)) (Or.inl ⟨by rfl, fun w hSw => ?_⟩) ?_
          rotate_left
          · obtain ⟨i1, i2, b4, b5⟩ := HI.out
            first | (go_simp; done) | (go_simp; with_reducible rfl)
          simp only [Nat.reduceAdd, AP]
        refine atN 5 ?_
        iterate 2
          refine anyG_y HG (v := ?_) rfl (by kernel_rfl) (fun _ _ _ h => h) (NewAt.ins (by decide)) (Or.inl ⟨by rfl, fun w hSw => ?_⟩) ?_
          rotate_left
          · skip
            first | (go_simp; done) | (go_simp; with_reducible rfl)
          simp only [Nat.reduceAdd, AP]
        refine atN 7 ?_
        iterate 2
          refine anyG_y HG (v := ?_) rfl (by kernel_rfl) (fun _ _ _ h => h) (NewAt.ins (by decide)) (Or.inl ⟨by rfl, fun w hSw => ?_⟩) ?_
          rotate_left
          · obtain ⟨i1, i2, b4, b5⟩ := HI.out
            first | (go_simp; done) | (go_simp; with_reducible rfl)
          simp only [Nat.reduceAdd, AP]
        refine atN 9 ?_
        refine anyG_y HG (v := ?_) rfl (by kernel_rfl) (fun _ _ _ h => h) (NewAt.ins (by decide)) (Or.inl ⟨by rfl, fun w hSw => ?_⟩) ?_
        rotate_left
        · skip
          first | (go_simp; done) | (go_simp; with_reducible rfl)
        simp only [Nat.reduceAdd, AP]
        refine anyG_alloc HG (i := 10) (by kernel_rfl) rfl rfl rfl rfl zeroPT (fun w h => h.1.size) (by simp) (fun g10 lg10 => ?_)
        simp only [Act.put, List.setIfInBounds_toArray, List.set_cons_zero, List.set_cons_succ]
        refine anyG_tail [11] (k := 11) (by kernel_rfl) (fun w7 hS hT => ?_)
        simp only [List.filterMap_cons, List.filterMap_nil, List.getElem?_toArray, List.getElem?_cons_succ, List.getElem?_cons_zero]
        obtain ⟨hpS, hS⟩ := hS
        clear HG
        have PT := Lib.hid (PT.out.pure hpS)
        have D2 := Lib.hid hS.head
        have D4 := Lib.hid hS.tail.head
        clear hS hpS
        have DX := Lib.hid (hT g10 rfl lg10)
        clear hT
        refine wpList_store_blk rfl 92 _ _ rfl g10 _ (ptC ⟨q, X, Y⟩) _ rfl rfl DX.out rfl infoPT (ptC_one _) ?_
        intro w8 d8 t8 s8
        clear s8
        have n102 : g2 ≠ g10 := by have := N6.out.1; omega
        have n104 : g4 ≠ g10 := by have := N6.out.2; omega
        have DX := Lib.hid d8; have D2 := Lib.hid (t8.obj D2.out n102); have D4 := Lib.hid (t8.obj D4.out n104)
        have PT := Lib.hid (PT.out.newer t8 (Nat.le_trans P6S.out lg10) : Pure w w8)
        clear d8 t8 P6S N6 lg10 n102
        have lg := PT.out.size
        have i3 := HI3.out
        go_wp2_with fail
        clear i3
        refine (HO2.out _).mono ?_
        rintro e w9 ⟨rfl, r9, t9⟩
        have n2 : g2 ≠ w8.heap.size := by have := (Array.getElem?_eq_some_iff.1 D2.out).1; omega
        have n4' : g4 ≠ w8.heap.size := by have := (Array.getElem?_eq_some_iff.1 D4.out).1; omega
        have nX : g10 ≠ w8.heap.size := by have := (Array.getElem?_eq_some_iff.1 DX.out).1; omega
        have D2 := Lib.hid (t9.obj D2.out (fun e => e)); have D4 := Lib.hid (t9.obj D4.out (fun e => e)); have DX := Lib.hid (t9.obj DX.out (fun e => e)); have PT := Lib.hid (PT.out.pure t9); have HR := Lib.hid r9
        generalize w8.heap.size = gr2 at *
        clear t9 r9
        go_wp2_with fail
        refine (HR2.out _ _ HR.out).mono ?_
        rintro e w10 ⟨rfl, r10⟩
        have D2 := Lib.hid (r10.turn.obj D2.out n2); have D4 := Lib.hid (r10.turn.obj D4.out n4'); have DX := Lib.hid (r10.turn.obj DX.out nX); have PT := Lib.hid (PT.out.newer r10.turn lg : Pure w w10)
        clear r10 HR n2 n4' nX lg
        obtain ⟨x0, x1, x2⟩ := pt_cells DX.out
        go_wp2_with fail
        refine (HKD.out _).mono ?_
        rintro e w11 ⟨rfl, t11⟩
        have D2 := Lib.hid (t11.obj D2.out (fun e => e)); have D4 := Lib.hid (t11.obj D4.out (fun e => e)); have DX := Lib.hid (t11.obj DX.out (fun e => e)); have PT := Lib.hid (PT.out.pure t11)
        clear t11 x0 x1 x2
        go_wp2_with fail
        refine wp_region_G (S := fun w' => Turn (fun k => k = g4) w11 w' ∧ Held [(g2, Obj.cells C.toArray 88 (0, 0)), (g10, Obj.cells (ptC ⟨q, X, Y⟩).toArray 92 (0, 0))] w') (T := StoreAt 22 g4 (Obj.cells (ptC Parts0).toArray 92 (0, 0)) (Obj.cells (ptC ⟨q, X, Y⟩).toArray 92 (0, 0))) (by kernel_rfl) ⟨(Turn.refl _ _).drew, held_cons (show w11.drew.heap[_]? = _ from D2.out) (held_cons (show w11.drew.heap[_]? = _ from DX.out) (held_nil _))⟩ (show w11.drew.heap[g4]? = _ from D4.out) ?_
        have HG := Grow.store w11 [(g2, Obj.cells C.toArray 88 (0, 0)), (g10, Obj.cells (ptC ⟨q, X, Y⟩).toArray 92 (0, 0))] 22 g4 (Obj.cells (ptC Parts0).toArray 92 (0, 0)) (Obj.cells (ptC ⟨q, X, Y⟩).toArray 92 (0, 0))
        refine anyG_take HG (i := 0) (v := Value.agg (ptC ⟨q, X, Y⟩).toArray) rfl (by kernel_rfl) (by kernel_rfl) (by kernel_rfl) (fun _ _ _ h => h) (StoreAt.ins (by decide)) (yieldsIf_load_mid (by rfl) 92 _ rfl g10 0 rfl (ptC ⟨q, X, Y⟩) _ (fun w hSw => range_of_row hSw.2.tail.head) Try.underlying92 rfl infoPT) ?_
        simp only [AP]
        refine atN 1 ?_
        iterate 4
          refine anyG_y HG (v := ?_) rfl (by kernel_rfl) (fun _ _ _ h => h) (StoreAt.ins (by decide)) (Or.inl ⟨by rfl, fun w hSw => ?_⟩) ?_
          rotate_left
          · skip
            first | (go_simp; done) | (go_simp; with_reducible rfl)
          simp only [Nat.reduceAdd, AP]
        refine atN 5 ?_
        refine anyG_y HG (v := ?_) rfl (by kernel_rfl) (fun _ _ _ h => h) (StoreAt.ins (by decide)) (Or.inl ⟨by rfl, fun w hSw => ?_⟩) ?_
        rotate_left
        · obtain ⟨k0, k1, k2, k3⟩ := HC.out _ _ hSw.2.head
          first | (go_simp; done) | (go_simp; with_reducible rfl)
        simp only [Nat.reduceAdd, AP]
        refine atN 6 ?_
        iterate 3
          refine anyG_y HG (v := ?_) rfl (by kernel_rfl) (fun _ _ _ h => h) (StoreAt.ins (by decide)) (Or.inl ⟨by rfl, fun w hSw => ?_⟩) ?_
          rotate_left
          · skip
            first | (go_simp; done) | (go_simp; with_reducible rfl)
          simp only [Nat.reduceAdd, AP]
        refine atN 9 ?_
        iterate 5
          refine anyG_y HG (v := undef) rfl (by kernel_rfl) (fun _ _ _ h => h) (StoreAt.ins (by decide)) (Or.inr ⟨by rfl, rfl⟩) ?_
          simp only [Nat.reduceAdd, AP]
        refine atN 14 ?_
        iterate 2
          refine anyG_y HG (v := ?_) rfl (by kernel_rfl) (fun _ _ _ h => h) (StoreAt.ins (by decide)) (Or.inl ⟨by rfl, fun w hSw => ?_⟩) ?_
          rotate_left
          · skip
            first | (go_simp; done) | (go_simp; with_reducible rfl)
          simp only [Nat.reduceAdd, AP]
        refine atN 16 ?_
        iterate 5
          refine anyG_y HG (v := undef) rfl (by kernel_rfl) (fun _ _ _ h => h) (StoreAt.ins (by decide)) (Or.inr ⟨by rfl, rfl⟩) ?_
          simp only [Nat.reduceAdd, AP]
        refine atN 21 ?_
        refine anyG_y HG (v := ?_) rfl (by kernel_rfl) (fun _ _ _ h => h) (StoreAt.ins (by decide)) (Or.inl ⟨by rfl, fun w hSw => ?_⟩) ?_
        rotate_left
        · skip
          first | (go_simp; done) | (go_simp; with_reducible rfl)
        simp only [Nat.reduceAdd, AP]
        refine anyG_store (i := 22) (by kernel_rfl) rfl rfl rfl rfl rfl rfl infoPT (ptC_one _) (far_cons (Ne.symm n42) (far_cons (Ne.symm n104) far_nil)) ?_
        simp only [Act.put]
        refine atN 23 ?_
        refine anyG_y HG (v := ?_) rfl (by kernel_rfl) (fun _ _ _ h => h) (StoreAt.ins (by decide)) (Or.inl ⟨by rfl, fun w hSw => ?_⟩) ?_
        rotate_left
        · skip
          first | (go_simp; done) | (go_simp; with_reducible rfl)
        simp only [Nat.reduceAdd, AP]
        refine anyG_done (by kernel_rfl) (fun w12 hS hT => ?_) _
        obtain ⟨hpS, hS⟩ := hS
        clear HG
        have PT := Lib.hid (PT.out.newer hpS l4)
        have D4 := Lib.hid (show w12.heap[g4]? = _ from hT)
        clear hS hT hpS
        go_wp2
        exact bodyPost_ret (v := .tuple #[.agg (ptC ⟨q, X, Y⟩).toArray, .bool false]) (results_cell2 Try.results49 _ _ g4 _ _ _ _ rfl D4.out Try.underlying92 rfl infoPT) rfl ⟨by first | rfl | (rw [HV.out]), PT.out⟩
      case pos =>
        have d2 : (K1 == ots) = true := by simpa using h2
        by_cases h3 : (t : Int) = TV
        case neg =>
          have d3 : ((t : Int) == TV) = false := by simpa using h3
          have HV : Hid ((true && (K1 == ots) && ((t : Int) == TV) && decide (q < m)) = false) := Lib.hid (by rw [d2, d3]; simp)
          clear h2 h3
          go_enter Try.func49, Try.ntmps49
          go_wp2_with (refine wpList_boxV rfl 88 _ rfl C rfl ?_)
          intro g2 w1 e1 c1 t1 s1
          have l2 : w.heap.size ≤ g2 := by omega
          clear e1 s1
          have D2 := Lib.hid c1; have PT := Lib.hid t1
          clear c1 t1
          go_wp2_with (refine wpList_allocZ rfl 92 rfl _ zeroPT ?_)
          intro g4 w2 e2 c2 t2 s2x
          have l4 : w.heap.size ≤ g4 := by have := PT.out.size; omega
          have n42 : g4 ≠ g2 := by have := (Array.getElem?_eq_some_iff.1 D2.out).1; omega
          clear e2 s2x
          have D4 := Lib.hid c2; have D2 := Lib.hid (t2.obj D2.out (fun e => e)); have PT := Lib.hid (PT.out.pure t2)
          clear c2 t2
          have R1 := range_of_row D2.out
          go_wp2_with (refine wpList_load_mid rfl 88 _ rfl g2 0 rfl C _ R1 Try.underlying88 rfl HCI.out ?_)
          clear R1
          refine (HSZ.out _).mono ?_
          rintro e w3 ⟨rfl, t3⟩
          have D2 := Lib.hid (t3.obj D2.out (fun e => e)); have D4 := Lib.hid (t3.obj D4.out (fun e => e)); have PT := Lib.hid (PT.out.pure t3)
          clear t3
          obtain ⟨k0, k1, k2, k3⟩ := HC.out _ _ D2.out
          go_wp2_with fail
          refine (HOS.out _).mono ?_
          rintro e w4 ⟨rfl, t4⟩
          have D2 := Lib.hid (t4.obj D2.out (fun e => e)); have D4 := Lib.hid (t4.obj D4.out (fun e => e)); have PT := Lib.hid (PT.out.pure t4)
          clear t4 k0 k1 k2 k3
          have lg := PT.out.size
          go_wp2_with fail
          refine (HO1.out _).mono ?_
          rintro e w5 ⟨rfl, r5, t5⟩
          have n2 : g2 ≠ w4.heap.size := by have := (Array.getElem?_eq_some_iff.1 D2.out).1; omega
          have n4' : g4 ≠ w4.heap.size := by have := (Array.getElem?_eq_some_iff.1 D4.out).1; omega
          have D2 := Lib.hid (t5.obj D2.out (fun e => e)); have D4 := Lib.hid (t5.obj D4.out (fun e => e)); have PT := Lib.hid (PT.out.pure t5); have HR := Lib.hid r5
          generalize w4.heap.size = gr at *
          clear t5 r5
          go_wp2_with fail
          refine (HR1.out _ _ HR.out).mono ?_
          rintro e w6 ⟨rfl, r6⟩
          have D2 := Lib.hid (r6.turn.obj D2.out n2); have D4 := Lib.hid (r6.turn.obj D4.out n4'); have PT := Lib.hid (PT.out.newer r6.turn lg : Pure w w6)
          have P6S : Hid (w.heap.size ≤ w6.heap.size) := Lib.hid PT.out.size
          have N6 : Hid (g2 < w6.heap.size ∧ g4 < w6.heap.size) := Lib.hid ⟨(Array.getElem?_eq_some_iff.1 D2.out).1, (Array.getElem?_eq_some_iff.1 D4.out).1⟩
          clear r6 HR n2 n4' lg
          go_wp2_with fail
          refine wp_region_G (S := fun w' => Pure w6 w' ∧ Held [(g2, Obj.cells C.toArray 88 (0, 0)), (g4, Obj.cells (ptC Parts0).toArray 92 (0, 0))] w') (T := NewAt 10 w6.heap.size (Obj.cells (ptC Parts0).toArray 92 (0, 0))) (by kernel_rfl) ⟨(Turn.refl _ _).drew, held_cons (show w6.drew.heap[_]? = _ from D2.out) (held_cons (show w6.drew.heap[_]? = _ from D4.out) (held_nil _))⟩ (fun g h hB => nomatch h) ?_
          have HG := Grow.heldNew w6 [(g2, Obj.cells C.toArray 88 (0, 0)), (g4, Obj.cells (ptC Parts0).toArray 92 (0, 0))] 10 w6.heap.size (Obj.cells (ptC Parts0).toArray 92 (0, 0))
          refine atN 0 ?_
          iterate 3
            refine anyG_y HG (v := ?_) rfl (by kernel_rfl) (fun _ _ _ h => h) (NewAt.ins (by decide)) (Or.inl ⟨by rfl, fun w hSw => ?_⟩) ?_
            rotate_left
            · skip
              first | (go_simp; done) | (go_simp; with_reducible rfl)
            simp only [Nat.reduceAdd, AP]
          refine atN 3 ?_
          iterate 2
            refine anyG_y HG (v := ?_) rfl (by kernel_rfl) (fun _ _ _ h => h) (NewAt.ins (by decide)) (Or.inl ⟨by rfl, fun w hSw => ?_⟩) ?_
            rotate_left
            · obtain ⟨i1, i2, b4, b5⟩ := HI.out
              first | (go_simp; done) | (go_simp; with_reducible rfl)
            simp only [Nat.reduceAdd, AP]
          refine atN 5 ?_
          iterate 2
            refine anyG_y HG (v := ?_) rfl (by kernel_rfl) (fun _ _ _ h => h) (NewAt.ins (by decide)) (Or.inl ⟨by rfl, fun w hSw => ?_⟩) ?_
            rotate_left
            · skip
              first | (go_simp; done) | (go_simp; with_reducible rfl)
            simp only [Nat.reduceAdd, AP]
          refine atN 7 ?_
          iterate 2
            refine anyG_y HG (v := ?_) rfl (by kernel_rfl) (fun _ _ _ h => h) (NewAt.ins (by decide)) (Or.inl ⟨by rfl, fun w hSw => ?_⟩) ?_
            rotate_left
            · obtain ⟨i1, i2, b4, b5⟩ := HI.out
              first | (go_simp; done) | (go_simp; with_reducible rfl)
            simp only [Nat.reduceAdd, AP]
          refine atN 9 ?_
          refine anyG_y HG (v := ?_) rfl (by kernel_rfl) (fun _ _ _ h => h) (NewAt.ins (by decide)) (Or.inl ⟨by rfl, fun w hSw => ?_⟩) ?_
          rotate_left
          · skip
            first | (go_simp; done) | (go_simp; with_reducible rfl)
          simp only [Nat.reduceAdd, AP]
          refine anyG_alloc HG (i := 10) (by kernel_rfl) rfl rfl rfl rfl zeroPT (fun w h => h.1.size) (by simp) (fun g10 lg10 => ?_)
          simp only [Act.put, List.setIfInBounds_toArray, List.set_cons_zero, List.set_cons_succ]
          refine anyG_tail [11] (k := 11) (by kernel_rfl) (fun w7 hS hT => ?_)
          simp only [List.filterMap_cons, List.filterMap_nil, List.getElem?_toArray, List.getElem?_cons_succ, List.getElem?_cons_zero]
          obtain ⟨hpS, hS⟩ := hS
          clear HG
          have PT := Lib.hid (PT.out.pure hpS)
          have D2 := Lib.hid hS.head
          have D4 := Lib.hid hS.tail.head
          clear hS hpS
          have DX := Lib.hid (hT g10 rfl lg10)
          clear hT
          refine wpList_store_blk rfl 92 _ _ rfl g10 _ (ptC ⟨q, X, Y⟩) _ rfl rfl DX.out rfl infoPT (ptC_one _) ?_
          intro w8 d8 t8 s8
          clear s8
          have n102 : g2 ≠ g10 := by have := N6.out.1; omega
          have n104 : g4 ≠ g10 := by have := N6.out.2; omega
          have DX := Lib.hid d8; have D2 := Lib.hid (t8.obj D2.out n102); have D4 := Lib.hid (t8.obj D4.out n104)
          have PT := Lib.hid (PT.out.newer t8 (Nat.le_trans P6S.out lg10) : Pure w w8)
          clear d8 t8 P6S N6 lg10 n102
          have lg := PT.out.size
          have i3 := HI3.out
          go_wp2_with fail
          clear i3
          refine (HO2.out _).mono ?_
          rintro e w9 ⟨rfl, r9, t9⟩
          have n2 : g2 ≠ w8.heap.size := by have := (Array.getElem?_eq_some_iff.1 D2.out).1; omega
          have n4' : g4 ≠ w8.heap.size := by have := (Array.getElem?_eq_some_iff.1 D4.out).1; omega
          have nX : g10 ≠ w8.heap.size := by have := (Array.getElem?_eq_some_iff.1 DX.out).1; omega
          have D2 := Lib.hid (t9.obj D2.out (fun e => e)); have D4 := Lib.hid (t9.obj D4.out (fun e => e)); have DX := Lib.hid (t9.obj DX.out (fun e => e)); have PT := Lib.hid (PT.out.pure t9); have HR := Lib.hid r9
          generalize w8.heap.size = gr2 at *
          clear t9 r9
          go_wp2_with fail
          refine (HR2.out _ _ HR.out).mono ?_
          rintro e w10 ⟨rfl, r10⟩
          have D2 := Lib.hid (r10.turn.obj D2.out n2); have D4 := Lib.hid (r10.turn.obj D4.out n4'); have DX := Lib.hid (r10.turn.obj DX.out nX); have PT := Lib.hid (PT.out.newer r10.turn lg : Pure w w10)
          clear r10 HR n2 n4' nX lg
          obtain ⟨x0, x1, x2⟩ := pt_cells DX.out
          go_wp2_with fail
          refine (HKD.out _).mono ?_
          rintro e w11 ⟨rfl, t11⟩
          have D2 := Lib.hid (t11.obj D2.out (fun e => e)); have D4 := Lib.hid (t11.obj D4.out (fun e => e)); have DX := Lib.hid (t11.obj DX.out (fun e => e)); have PT := Lib.hid (PT.out.pure t11)
          clear t11 x0 x1 x2
          go_wp2_with fail
          refine wp_region_G (S := fun w' => Turn (fun k => k = g4) w11 w' ∧ Held [(g2, Obj.cells C.toArray 88 (0, 0)), (g10, Obj.cells (ptC ⟨q, X, Y⟩).toArray 92 (0, 0))] w') (T := StoreAt 22 g4 (Obj.cells (ptC Parts0).toArray 92 (0, 0)) (Obj.cells (ptC ⟨q, X, Y⟩).toArray 92 (0, 0))) (by kernel_rfl) ⟨(Turn.refl _ _).drew, held_cons (show w11.drew.heap[_]? = _ from D2.out) (held_cons (show w11.drew.heap[_]? = _ from DX.out) (held_nil _))⟩ (show w11.drew.heap[g4]? = _ from D4.out) ?_
          have HG := Grow.store w11 [(g2, Obj.cells C.toArray 88 (0, 0)), (g10, Obj.cells (ptC ⟨q, X, Y⟩).toArray 92 (0, 0))] 22 g4 (Obj.cells (ptC Parts0).toArray 92 (0, 0)) (Obj.cells (ptC ⟨q, X, Y⟩).toArray 92 (0, 0))
          refine anyG_take HG (i := 0) (v := Value.agg (ptC ⟨q, X, Y⟩).toArray) rfl (by kernel_rfl) (by kernel_rfl) (by kernel_rfl) (fun _ _ _ h => h) (StoreAt.ins (by decide)) (yieldsIf_load_mid (by rfl) 92 _ rfl g10 0 rfl (ptC ⟨q, X, Y⟩) _ (fun w hSw => range_of_row hSw.2.tail.head) Try.underlying92 rfl infoPT) ?_
          simp only [AP]
          refine atN 1 ?_
          iterate 4
            refine anyG_y HG (v := ?_) rfl (by kernel_rfl) (fun _ _ _ h => h) (StoreAt.ins (by decide)) (Or.inl ⟨by rfl, fun w hSw => ?_⟩) ?_
            rotate_left
            · skip
              first | (go_simp; done) | (go_simp; with_reducible rfl)
            simp only [Nat.reduceAdd, AP]
          refine atN 5 ?_
          refine anyG_y HG (v := ?_) rfl (by kernel_rfl) (fun _ _ _ h => h) (StoreAt.ins (by decide)) (Or.inl ⟨by rfl, fun w hSw => ?_⟩) ?_
          rotate_left
          · obtain ⟨k0, k1, k2, k3⟩ := HC.out _ _ hSw.2.head
            first | (go_simp; done) | (go_simp; with_reducible rfl)
          simp only [Nat.reduceAdd, AP]
          refine atN 6 ?_
          iterate 5
            refine anyG_y HG (v := ?_) rfl (by kernel_rfl) (fun _ _ _ h => h) (StoreAt.ins (by decide)) (Or.inl ⟨by rfl, fun w hSw => ?_⟩) ?_
            rotate_left
            · skip
              first | (go_simp; done) | (go_simp; with_reducible rfl)
            simp only [Nat.reduceAdd, AP]
          refine atN 11 ?_
          refine anyG_y HG (v := ?_) rfl (by kernel_rfl) (fun _ _ _ h => h) (StoreAt.ins (by decide)) (Or.inl ⟨by rfl, fun w hSw => ?_⟩) ?_
          rotate_left
          · obtain ⟨k0, k1, k2, k3⟩ := HC.out _ _ hSw.2.head
            first | (go_simp; done) | (go_simp; with_reducible rfl)
          simp only [Nat.reduceAdd, AP]
          refine anyG_call HG (i := 12) (fun w hSw => HTY.out w) rfl (by kernel_rfl) (by kernel_rfl) (by kernel_rfl) (fun _ _ _ h => h) (StoreAt.ins (by decide)) (by rfl) (fun w hSw => by go_simp; first | done | with_reducible rfl) ?_
          simp only [AP]
          refine atN 13 ?_
          iterate 3
            refine anyG_y HG (v := ?_) rfl (by kernel_rfl) (fun _ _ _ h => h) (StoreAt.ins (by decide)) (Or.inl ⟨by rfl, fun w hSw => ?_⟩) ?_
            rotate_left
            · skip
              first | (go_simp; done) | (go_simp; with_reducible rfl)
            simp only [Nat.reduceAdd, AP]
          refine atN 16 ?_
          iterate 5
            refine anyG_y HG (v := undef) rfl (by kernel_rfl) (fun _ _ _ h => h) (StoreAt.ins (by decide)) (Or.inr ⟨by rfl, rfl⟩) ?_
            simp only [Nat.reduceAdd, AP]
          refine atN 21 ?_
          refine anyG_y HG (v := ?_) rfl (by kernel_rfl) (fun _ _ _ h => h) (StoreAt.ins (by decide)) (Or.inl ⟨by rfl, fun w hSw => ?_⟩) ?_
          rotate_left
          · skip
            first | (go_simp; done) | (go_simp; with_reducible rfl)
          simp only [Nat.reduceAdd, AP]
          refine anyG_store (i := 22) (by kernel_rfl) rfl rfl rfl rfl rfl rfl infoPT (ptC_one _) (far_cons (Ne.symm n42) (far_cons (Ne.symm n104) far_nil)) ?_
          simp only [Act.put]
          refine atN 23 ?_
          refine anyG_y HG (v := ?_) rfl (by kernel_rfl) (fun _ _ _ h => h) (StoreAt.ins (by decide)) (Or.inl ⟨by rfl, fun w hSw => ?_⟩) ?_
          rotate_left
          · skip
            first | (go_simp; done) | (go_simp; with_reducible rfl)
          simp only [Nat.reduceAdd, AP]
          refine anyG_done (by kernel_rfl) (fun w12 hS hT => ?_) _
          obtain ⟨hpS, hS⟩ := hS
          clear HG
          have PT := Lib.hid (PT.out.newer hpS l4)
          have D4 := Lib.hid (show w12.heap[g4]? = _ from hT)
          clear hS hT hpS
          go_wp2
          exact bodyPost_ret (v := .tuple #[.agg (ptC ⟨q, X, Y⟩).toArray, .bool false]) (results_cell2 Try.results49 _ _ g4 _ _ _ _ rfl D4.out Try.underlying92 rfl infoPT) rfl ⟨by first | rfl | (rw [HV.out]), PT.out⟩
        case pos =>
          have d3 : ((t : Int) == TV) = true := by simpa using h3
          have HV : Hid ((true && (K1 == ots) && ((t : Int) == TV) && decide (q < m)) = decide (q < m)) := Lib.hid (by rw [d2, d3]; simp)
          clear h2 h3
          go_enter Try.func49, Try.ntmps49
          go_wp2_with (refine wpList_boxV rfl 88 _ rfl C rfl ?_)
          intro g2 w1 e1 c1 t1 s1
          have l2 : w.heap.size ≤ g2 := by omega
          clear e1 s1
          have D2 := Lib.hid c1; have PT := Lib.hid t1
          clear c1 t1
          go_wp2_with (refine wpList_allocZ rfl 92 rfl _ zeroPT ?_)
          intro g4 w2 e2 c2 t2 s2x
          have l4 : w.heap.size ≤ g4 := by have := PT.out.size; omega
          have n42 : g4 ≠ g2 := by have := (Array.getElem?_eq_some_iff.1 D2.out).1; omega
          clear e2 s2x
          have D4 := Lib.hid c2; have D2 := Lib.hid (t2.obj D2.out (fun e => e)); have PT := Lib.hid (PT.out.pure t2)
          clear c2 t2
          have R1 := range_of_row D2.out
          go_wp2_with (refine wpList_load_mid rfl 88 _ rfl g2 0 rfl C _ R1 Try.underlying88 rfl HCI.out ?_)
          clear R1
          refine (HSZ.out _).mono ?_
          rintro e w3 ⟨rfl, t3⟩
          have D2 := Lib.hid (t3.obj D2.out (fun e => e)); have D4 := Lib.hid (t3.obj D4.out (fun e => e)); have PT := Lib.hid (PT.out.pure t3)
          clear t3
          obtain ⟨k0, k1, k2, k3⟩ := HC.out _ _ D2.out
          go_wp2_with fail
          refine (HOS.out _).mono ?_
          rintro e w4 ⟨rfl, t4⟩
          have D2 := Lib.hid (t4.obj D2.out (fun e => e)); have D4 := Lib.hid (t4.obj D4.out (fun e => e)); have PT := Lib.hid (PT.out.pure t4)
          clear t4 k0 k1 k2 k3
          have lg := PT.out.size
          go_wp2_with fail
          refine (HO1.out _).mono ?_
          rintro e w5 ⟨rfl, r5, t5⟩
          have n2 : g2 ≠ w4.heap.size := by have := (Array.getElem?_eq_some_iff.1 D2.out).1; omega
          have n4' : g4 ≠ w4.heap.size := by have := (Array.getElem?_eq_some_iff.1 D4.out).1; omega
          have D2 := Lib.hid (t5.obj D2.out (fun e => e)); have D4 := Lib.hid (t5.obj D4.out (fun e => e)); have PT := Lib.hid (PT.out.pure t5); have HR := Lib.hid r5
          generalize w4.heap.size = gr at *
          clear t5 r5
          go_wp2_with fail
          refine (HR1.out _ _ HR.out).mono ?_
          rintro e w6 ⟨rfl, r6⟩
          have D2 := Lib.hid (r6.turn.obj D2.out n2); have D4 := Lib.hid (r6.turn.obj D4.out n4'); have PT := Lib.hid (PT.out.newer r6.turn lg : Pure w w6)
          have P6S : Hid (w.heap.size ≤ w6.heap.size) := Lib.hid PT.out.size
          have N6 : Hid (g2 < w6.heap.size ∧ g4 < w6.heap.size) := Lib.hid ⟨(Array.getElem?_eq_some_iff.1 D2.out).1, (Array.getElem?_eq_some_iff.1 D4.out).1⟩
          clear r6 HR n2 n4' lg
          go_wp2_with fail
          refine wp_region_G (S := fun w' => Pure w6 w' ∧ Held [(g2, Obj.cells C.toArray 88 (0, 0)), (g4, Obj.cells (ptC Parts0).toArray 92 (0, 0))] w') (T := NewAt 10 w6.heap.size (Obj.cells (ptC Parts0).toArray 92 (0, 0))) (by kernel_rfl) ⟨(Turn.refl _ _).drew, held_cons (show w6.drew.heap[_]? = _ from D2.out) (held_cons (show w6.drew.heap[_]? = _ from D4.out) (held_nil _))⟩ (fun g h hB => nomatch h) ?_
          have HG := Grow.heldNew w6 [(g2, Obj.cells C.toArray 88 (0, 0)), (g4, Obj.cells (ptC Parts0).toArray 92 (0, 0))] 10 w6.heap.size (Obj.cells (ptC Parts0).toArray 92 (0, 0))
          refine atN 0 ?_
          iterate 3
            refine anyG_y HG (v := ?_) rfl (by kernel_rfl) (fun _ _ _ h => h) (NewAt.ins (by decide)) (Or.inl ⟨by rfl, fun w hSw => ?_⟩) ?_
            rotate_left
            · skip
              first | (go_simp; done) | (go_simp; with_reducible rfl)
            simp only [Nat.reduceAdd, AP]
          refine atN 3 ?_
          iterate 2
            refine anyG_y HG (v := ?_) rfl (by kernel_rfl) (fun _ _ _ h => h) (NewAt.ins (by decide)) (Or.inl ⟨by rfl, fun w hSw => ?_⟩) ?_
            rotate_left
            · obtain ⟨i1, i2, b4, b5⟩ := HI.out
              first | (go_simp; done) | (go_simp; with_reducible rfl)
            simp only [Nat.reduceAdd, AP]
          refine atN 5 ?_
          iterate 2
            refine anyG_y HG (v := ?_) rfl (by kernel_rfl) (fun _ _ _ h => h) (NewAt.ins (by decide)) (Or.inl ⟨by rfl, fun w hSw => ?_⟩) ?_
            rotate_left
            · skip
              first | (go_simp; done) | (go_simp; with_reducible rfl)
            simp only [Nat.reduceAdd, AP]
          refine atN 7 ?_
          iterate 2
            refine anyG_y HG (v := ?_) rfl (by kernel_rfl) (fun _ _ _ h => h) (NewAt.ins (by decide)) (Or.inl ⟨by rfl, fun w hSw => ?_⟩) ?_
            rotate_left
            · obtain ⟨i1, i2, b4, b5⟩ := HI.out
              first | (go_simp; done) | (go_simp; with_reducible rfl)
            simp only [Nat.reduceAdd, AP]
          refine atN 9 ?_
          refine anyG_y HG (v := ?_) rfl (by kernel_rfl) (fun _ _ _ h => h) (NewAt.ins (by decide)) (Or.inl ⟨by rfl, fun w hSw => ?_⟩) ?_
          rotate_left
          · skip
            first | (go_simp; done) | (go_simp; with_reducible rfl)
          simp only [Nat.reduceAdd, AP]
          refine anyG_alloc HG (i := 10) (by kernel_rfl) rfl rfl rfl rfl zeroPT (fun w h => h.1.size) (by simp) (fun g10 lg10 => ?_)
          simp only [Act.put, List.setIfInBounds_toArray, List.set_cons_zero, List.set_cons_succ]
          refine anyG_tail [11] (k := 11) (by kernel_rfl) (fun w7 hS hT => ?_)
          simp only [List.filterMap_cons, List.filterMap_nil, List.getElem?_toArray, List.getElem?_cons_succ, List.getElem?_cons_zero]
          obtain ⟨hpS, hS⟩ := hS
          clear HG
          have PT := Lib.hid (PT.out.pure hpS)
          have D2 := Lib.hid hS.head
          have D4 := Lib.hid hS.tail.head
          clear hS hpS
          have DX := Lib.hid (hT g10 rfl lg10)
          clear hT
          refine wpList_store_blk rfl 92 _ _ rfl g10 _ (ptC ⟨q, X, Y⟩) _ rfl rfl DX.out rfl infoPT (ptC_one _) ?_
          intro w8 d8 t8 s8
          clear s8
          have n102 : g2 ≠ g10 := by have := N6.out.1; omega
          have n104 : g4 ≠ g10 := by have := N6.out.2; omega
          have DX := Lib.hid d8; have D2 := Lib.hid (t8.obj D2.out n102); have D4 := Lib.hid (t8.obj D4.out n104)
          have PT := Lib.hid (PT.out.newer t8 (Nat.le_trans P6S.out lg10) : Pure w w8)
          clear d8 t8 P6S N6 lg10 n102
          have lg := PT.out.size
          have i3 := HI3.out
          go_wp2_with fail
          clear i3
          refine (HO2.out _).mono ?_
          rintro e w9 ⟨rfl, r9, t9⟩
          have n2 : g2 ≠ w8.heap.size := by have := (Array.getElem?_eq_some_iff.1 D2.out).1; omega
          have n4' : g4 ≠ w8.heap.size := by have := (Array.getElem?_eq_some_iff.1 D4.out).1; omega
          have nX : g10 ≠ w8.heap.size := by have := (Array.getElem?_eq_some_iff.1 DX.out).1; omega
          have D2 := Lib.hid (t9.obj D2.out (fun e => e)); have D4 := Lib.hid (t9.obj D4.out (fun e => e)); have DX := Lib.hid (t9.obj DX.out (fun e => e)); have PT := Lib.hid (PT.out.pure t9); have HR := Lib.hid r9
          generalize w8.heap.size = gr2 at *
          clear t9 r9
          go_wp2_with fail
          refine (HR2.out _ _ HR.out).mono ?_
          rintro e w10 ⟨rfl, r10⟩
          have D2 := Lib.hid (r10.turn.obj D2.out n2); have D4 := Lib.hid (r10.turn.obj D4.out n4'); have DX := Lib.hid (r10.turn.obj DX.out nX); have PT := Lib.hid (PT.out.newer r10.turn lg : Pure w w10)
          clear r10 HR n2 n4' nX lg
          obtain ⟨x0, x1, x2⟩ := pt_cells DX.out
          go_wp2_with fail
          refine (HKD.out _).mono ?_
          rintro e w11 ⟨rfl, t11⟩
          have D2 := Lib.hid (t11.obj D2.out (fun e => e)); have D4 := Lib.hid (t11.obj D4.out (fun e => e)); have DX := Lib.hid (t11.obj DX.out (fun e => e)); have PT := Lib.hid (PT.out.pure t11)
          clear t11 x0 x1 x2
          go_wp2_with fail
          refine wp_region_G (S := fun w' => Turn (fun k => k = g4) w11 w' ∧ Held [(g2, Obj.cells C.toArray 88 (0, 0)), (g10, Obj.cells (ptC ⟨q, X, Y⟩).toArray 92 (0, 0))] w') (T := StoreAt 22 g4 (Obj.cells (ptC Parts0).toArray 92 (0, 0)) (Obj.cells (ptC ⟨q, X, Y⟩).toArray 92 (0, 0))) (by kernel_rfl) ⟨(Turn.refl _ _).drew, held_cons (show w11.drew.heap[_]? = _ from D2.out) (held_cons (show w11.drew.heap[_]? = _ from DX.out) (held_nil _))⟩ (show w11.drew.heap[g4]? = _ from D4.out) ?_
          have HG := Grow.store w11 [(g2, Obj.cells C.toArray 88 (0, 0)), (g10, Obj.cells (ptC ⟨q, X, Y⟩).toArray 92 (0, 0))] 22 g4 (Obj.cells (ptC Parts0).toArray 92 (0, 0)) (Obj.cells (ptC ⟨q, X, Y⟩).toArray 92 (0, 0))
          refine anyG_take HG (i := 0) (v := Value.agg (ptC ⟨q, X, Y⟩).toArray) rfl (by kernel_rfl) (by kernel_rfl) (by kernel_rfl) (fun _ _ _ h => h) (StoreAt.ins (by decide)) (yieldsIf_load_mid (by rfl) 92 _ rfl g10 0 rfl (ptC ⟨q, X, Y⟩) _ (fun w hSw => range_of_row hSw.2.tail.head) Try.underlying92 rfl infoPT) ?_
          simp only [AP]
          refine atN 1 ?_
          iterate 4
            refine anyG_y HG (v := ?_) rfl (by kernel_rfl) (fun _ _ _ h => h) (StoreAt.ins (by decide)) (Or.inl ⟨by rfl, fun w hSw => ?_⟩) ?_
            rotate_left
            · skip
              first | (go_simp; done) | (go_simp; with_reducible rfl)
            simp only [Nat.reduceAdd, AP]
          refine atN 5 ?_
          refine anyG_y HG (v := ?_) rfl (by kernel_rfl) (fun _ _ _ h => h) (StoreAt.ins (by decide)) (Or.inl ⟨by rfl, fun w hSw => ?_⟩) ?_
          rotate_left
          · obtain ⟨k0, k1, k2, k3⟩ := HC.out _ _ hSw.2.head
            first | (go_simp; done) | (go_simp; with_reducible rfl)
          simp only [Nat.reduceAdd, AP]
          refine atN 6 ?_
          iterate 5
            refine anyG_y HG (v := ?_) rfl (by kernel_rfl) (fun _ _ _ h => h) (StoreAt.ins (by decide)) (Or.inl ⟨by rfl, fun w hSw => ?_⟩) ?_
            rotate_left
            · skip
              first | (go_simp; done) | (go_simp; with_reducible rfl)
            simp only [Nat.reduceAdd, AP]
          refine atN 11 ?_
          refine anyG_y HG (v := ?_) rfl (by kernel_rfl) (fun _ _ _ h => h) (StoreAt.ins (by decide)) (Or.inl ⟨by rfl, fun w hSw => ?_⟩) ?_
          rotate_left
          · obtain ⟨k0, k1, k2, k3⟩ := HC.out _ _ hSw.2.head
            first | (go_simp; done) | (go_simp; with_reducible rfl)
          simp only [Nat.reduceAdd, AP]
          refine anyG_call HG (i := 12) (fun w hSw => HTY.out w) rfl (by kernel_rfl) (by kernel_rfl) (by kernel_rfl) (fun _ _ _ h => h) (StoreAt.ins (by decide)) (by rfl) (fun w hSw => by go_simp; first | done | with_reducible rfl) ?_
          simp only [AP]
          refine atN 13 ?_
          iterate 5
            refine anyG_y HG (v := ?_) rfl (by kernel_rfl) (fun _ _ _ h => h) (StoreAt.ins (by decide)) (Or.inl ⟨by rfl, fun w hSw => ?_⟩) ?_
            rotate_left
            · skip
              first | (go_simp; done) | (go_simp; with_reducible rfl)
            simp only [Nat.reduceAdd, AP]
          refine atN 18 ?_
          refine anyG_y HG (v := ?_) rfl (by kernel_rfl) (fun _ _ _ h => h) (StoreAt.ins (by decide)) (Or.inl ⟨by rfl, fun w hSw => ?_⟩) ?_
          rotate_left
          · obtain ⟨k0, k1, k2, k3⟩ := HC.out _ _ hSw.2.head
            first | (go_simp; done) | (go_simp; with_reducible rfl)
          simp only [Nat.reduceAdd, AP]
          refine atN 19 ?_
          refine anyG_y HG (v := ?_) rfl (by kernel_rfl) (fun _ _ _ h => h) (StoreAt.ins (by decide)) (Or.inl ⟨by rfl, fun w hSw => ?_⟩) ?_
          rotate_left
          · obtain ⟨hsh1, hsh2, hsh3⟩ := HSH.out
            first | (go_simp; done) | (go_simp; with_reducible rfl)
          simp only [Nat.reduceAdd, AP]
          refine atN 20 ?_
          iterate 2
            refine anyG_y HG (v := ?_) rfl (by kernel_rfl) (fun _ _ _ h => h) (StoreAt.ins (by decide)) (Or.inl ⟨by rfl, fun w hSw => ?_⟩) ?_
            rotate_left
            · skip
              first | (go_simp; done) | (go_simp; with_reducible rfl)
            simp only [Nat.reduceAdd, AP]
          refine anyG_store (i := 22) (by kernel_rfl) rfl rfl rfl rfl rfl rfl infoPT (ptC_one _) (far_cons (Ne.symm n42) (far_cons (Ne.symm n104) far_nil)) ?_
          simp only [Act.put]
          refine atN 23 ?_
          refine anyG_y HG (v := ?_) rfl (by kernel_rfl) (fun _ _ _ h => h) (StoreAt.ins (by decide)) (Or.inl ⟨by rfl, fun w hSw => ?_⟩) ?_
          rotate_left
          · skip
            first | (go_simp; done) | (go_simp; with_reducible rfl)
          simp only [Nat.reduceAdd, AP]
          refine anyG_done (by kernel_rfl) (fun w12 hS hT => ?_) _
          obtain ⟨hpS, hS⟩ := hS
          clear HG
          have PT := Lib.hid (PT.out.newer hpS l4)
          have D4 := Lib.hid (show w12.heap[g4]? = _ from hT)
          clear hS hT hpS
          go_wp2
          exact bodyPost_ret (v := .tuple #[.agg (ptC ⟨q, X, Y⟩).toArray, .bool (decide (q < m))]) (results_cell2 Try.results49 _ _ g4 _ _ _ _ rfl D4.out Try.underlying92 rfl infoPT) rfl ⟨by first | rfl | (rw [HV.out]), PT.out⟩
  · rw [partsV, if_neg hl]
    have hps2 := parV_le k.ots
    have hPk : pkSize k ≤ 3000 := by rw [hps, otsSize]; omega
    generalize pkSize k = Z at *
    obtain ⟨n, hn⟩ : ∃ n, n = s.length := ⟨_, rfl⟩
    rw [← hn] at zs0 hl
    have q1 : ((n : Int) != (Z : Int)) = true := by simp; omega
    have q1n : (n != Z) = true := by simp; omega
    have HSZ := Lib.hid hsz
    clear hsz hl hn hps hps2 hs
    go_enter Try.func49, Try.ntmps49
    go_wp2_with (refine wpList_boxV rfl 88 _ rfl C rfl ?_)
    intro g2 w1 e1 c1 t1 s1
    have l2 : w.heap.size ≤ g2 := by omega
    clear e1 s1
    have D2 := Lib.hid c1; have PT := Lib.hid t1
    clear c1 t1
    go_wp2_with (refine wpList_allocZ rfl 92 rfl _ zeroPT ?_)
    intro g4 w2 e2 c2 t2 s2x
    have l4 : w.heap.size ≤ g4 := by have := PT.out.size; omega
    clear e2 s2x
    have D4 := Lib.hid c2; have D2 := Lib.hid (t2.obj D2.out (fun e => e)); have PT := Lib.hid (PT.out.pure t2)
    clear c2 t2
    have R1 := range_of_row D2.out
    go_wp2_with (refine wpList_load_mid rfl 88 _ rfl g2 0 rfl C _ R1 Try.underlying88 rfl HCI.out ?_)
    clear R1
    refine (HSZ.out _).mono ?_
    rintro e w3 ⟨rfl, t3⟩
    have D4 := Lib.hid (t3.obj D4.out (fun e => e)); have PT := Lib.hid (PT.out.pure t3)
    clear t3
    go_wp2_with (refine wpList_store_blk rfl 92 _ _ rfl g4 _ (ptC Parts0) _ rfl rfl D4.out rfl infoPT (ptC_one _) ?_)
    intro w8 d8 t8 _
    have D4 := Lib.hid d8; have PT := Lib.hid (PT.out.newer t8 l4 : Pure w w8)
    clear d8 t8
    go_wp2
    exact bodyPost_ret (v := .tuple #[.agg (ptC Parts0).toArray, .bool false]) (results_cell2 Try.results49 _ _ g4 _ _ _ _ rfl D4.out Try.underlying92 rfl infoPT) rfl ⟨rfl, PT.out⟩
end Go.Proofs.Ytcfbmbhkdicpfaa
