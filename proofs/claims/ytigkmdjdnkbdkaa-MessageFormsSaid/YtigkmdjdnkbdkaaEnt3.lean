/- Chapter 19: a body is written. -/
import Derived.Test.YtigkmdjdnkbdkaaEnt2
import Derived.Test.YtigkmdjdnkbdkaaGrow
namespace Go.Proofs.Ytigkmdjdnkbdkaa
open Go.RowKit
set_option maxRecDepth 100000

theorem step_num {w0 w : World} {g K : Nat} {bs q : List UInt8} {x n : Nat} (HO : OwnK 87 w0 w g bs K) (HK : WrCell w K g) (hn : n = 1 ∨ n = 2 ∨ n = 4) (hx : x < 256 ^ n) (hl : bs.length ≤ 60000) (hq : bs ++ beB x n = q) :
    Calls Try.prog 39 #[.pointer (some ⟨g, 0, none⟩), .int .i64 (x : Int), .int .i64 (n : Int)] w fun e w' =>
      e = .returned (.int .i64 0) ∧ OwnK 87 w0 w' g q K ∧ WrCell w' K g := by
  refine (WNum_k (x : Int) (n : Int) HO HK.lt).mono fun e w' h => ?_
  rw [wrNum_fit hn hx hl, hq] at h
  exact ⟨h.1, h.2.1, h.2.2 _ HK⟩
theorem step_hash {w0 w : World} {g K : Nat} {bs q t : List UInt8} (HO : OwnK 87 w0 w g bs K) (HK : WrCell w K g) (ht : t.length = 32) (hl : bs.length ≤ 60000) (hq : bs ++ t = q) :
    Calls Try.prog 45 #[.pointer (some ⟨g, 0, none⟩), hv t] w fun e w' =>
      e = .returned (.int .i64 0) ∧ OwnK 87 w0 w' g q K ∧ WrCell w' K g := by
  refine (WHash_k t HO ht HK.lt).mono fun e w' h => ?_
  rw [wrPut_fit hl (by omega), hq] at h
  exact ⟨h.1, h.2.1, h.2.2 _ HK⟩

set_option maxHeartbeats 4000000 in
theorem ebody_any (w : World) (ge : Nat) (e : Ent) (hg : w.heap[ge]? = some (Obj.cells (entC e).toArray 47 (0, 0))) (he : EntAt w e) (hm : mayE e.p = true) :
    Calls Try.prog 62 #[.pointer (some ⟨ge, 0, none⟩)] w fun x w' => ∃ g, x = .returned (.pointer (some ⟨g, 0, none⟩)) ∧ OwnW 87 w w' g (bodyV e.p) := by
  have hlge : ge < w.heap.size := (Array.getElem?_eq_some_iff.1 hg).1
  obtain ⟨un, sn, eu, hu16, es, hs1, hs256, hmv, ht1, ht24⟩ := mayE_parts hm
  obtain ⟨hvi, hv1, hv16⟩ := mayB_parts hmv
  have hroot := he.root
  have hfit := he.fit
  obtain ⟨B1, hB1⟩ : ∃ B, B = ([65, 69] : List UInt8) ++ beB un 1 := ⟨_, rfl⟩
  obtain ⟨B2, hB2⟩ : ∃ B, B = B1 ++ beB sn 2 := ⟨_, rfl⟩
  obtain ⟨B3, hB3⟩ : ∃ B, B = B2 ++ beB e.p.vec.length 1 := ⟨_, rfl⟩
  obtain ⟨B4, hB4⟩ : ∃ B, B = B3 ++ vecB e.p.vec := ⟨_, rfl⟩
  obtain ⟨B5, hB5⟩ : ∃ B, B = B4 ++ e.p.root := ⟨_, rfl⟩
  obtain ⟨B6, hB6⟩ : ∃ B, B = B5 ++ beB e.p.tabs.length 1 := ⟨_, rfl⟩
  have hB7 : B6 ++ e.p.tabs.flatten = bodyV e.p := by
    rw [hB6, hB5, hB4, hB3, hB2, hB1, bodyV, eu, es]
    simp only [Int.toNat_natCast, List.append_assoc]
  have l1 : B1.length = 3 := by rw [hB1, List.length_append, beB_length]; rfl
  have l2 : B2.length = 5 := by rw [hB2, List.length_append, beB_length, l1]
  have l3 : B3.length = 6 := by rw [hB3, List.length_append, beB_length, l2]
  have l4 : B4.length ≤ 40 := by rw [hB4, List.length_append, vecB_length, l3]; omega
  have l5 : B5.length ≤ 80 := by rw [hB5, List.length_append, hroot]; omega
  have l6 : B6.length ≤ 81 := by rw [hB6, List.length_append, beB_length]; omega
  have N1 := fun W g K (O : OwnK 87 w W g [65, 69] K) (C : WrCell W K g) => step_num (x := un) (n := 1) O C (.inl rfl) (by omega) (by decide) hB1.symm
  have N2 := fun W g K (O : OwnK 87 w W g B1 K) (C : WrCell W K g) => step_num (x := sn) (n := 2) O C (.inr (.inl rfl)) (by omega) (by omega) hB2.symm
  have N3 := fun W g K (O : OwnK 87 w W g B2 K) (C : WrCell W K g) => step_num (x := e.p.vec.length) (n := 1) O C (.inl rfl) (by omega) (by omega) hB3.symm
  have N5 := fun W g K (O : OwnK 87 w W g B4 K) (C : WrCell W K g) => step_hash O C hroot (by omega) hB5.symm
  have N6 := fun W g K (O : OwnK 87 w W g B5 K) (C : WrCell W K g) => step_num (x := e.p.tabs.length) (n := 1) O C (.inl rfl) (by omega) (by omega) hB6.symm
  have HE := Lib.hid hg; have HE0 := Lib.hid hg; have HA := Lib.hid he; have EUS := Lib.hid (And.intro eu es)
  have hVV := he.vec; have hTV := he.tab
  obtain ⟨ao1, cp1, ev, _, _, _, _⟩ := he.vec
  obtain ⟨ao2, cp2, et, _, _, _⟩ := he.tab
  rw [ev] at hVV
  rw [et] at hTV
  have EVT := Lib.hid (And.intro ev et); have HVV := Lib.hid hVV; have HTV := Lib.hid hTV
  clear ev et hVV hTV eu es hmv
  clear hg he hB1 hB2 hB3 hB5 hB6
  have HB4 := Lib.hid hB4; have HB7 := Lib.hid hB7; have HVI := Lib.hid hvi
  have H1 := Lib.hid N1; have H2 := Lib.hid N2; have H3 := Lib.hid N3; have H5 := Lib.hid N5; have H6 := Lib.hid N6
  clear hB4 hB7 hvi N1 N2 N3 N5 N6
  go_enter Try.func62, Try.ntmps62
  go_wp2_with fail
  refine (New_own (Turn.refl (fun _ => False) w)).mono ?_
  rintro x w1 ⟨rfl, o1⟩
  have hgw : w.heap.size = w.heap.size := rfl
  generalize w.heap.size = g at *
  have hp : Pure w1 (w1.alloc (.cells #[.pointer (some ⟨g, 0, none⟩)] 51)) := (Turn.refl (fun _ => False) w1).alloc _
  have HO := Lib.hid (o1.keep hp (Nat.le_refl _))
  have HK := Lib.hid (heap_alloc_new w1 (.cells #[.pointer (some ⟨g, 0, none⟩)] 51))
  clear o1 hp hgw
  go_wp2_with fail
  generalize w1.alloc (.cells #[.pointer (some ⟨g, 0, none⟩)] 51) = w2 at *
  generalize w1.heap.size = K at *
  have HK : Hid (WrCell w2 K g) := Lib.hid HK.out
  go_loopw [4, 6] (fun _ i wr => ∃ j : Nat, j ≤ 2 ∧ i = .int .i64 (j : Int) ∧ Hid (OwnK 87 w wr g (([65, 69] : List UInt8).take j) K) ∧ Hid (WrCell wr K g)) (fun _ i _ => 2 - (intOf i).toNat)
  case atStart =>
    have HO2 : Hid (OwnK 87 w w2 g (([65, 69] : List UInt8).take 0) K) := Lib.hid HO.out
    exact ⟨0, by omega, by first | rfl | trivial, HO2, HK⟩
  case round =>
    obtain ⟨j, hj, rfl, HO, HK⟩ := hrel
    rcases (by omega : j = 0 ∨ j = 1 ∨ j = 2) with rfl | rfl | rfl
    · go_wp2_with fail
      refine wp_region_G (S := fun w' => Pure wr w' ∧ Held [(K, Obj.cells #[.pointer (some ⟨g, 0, none⟩)] 51 (0, 0))] w') (T := fun _ _ _ => True) (by kernel_rfl) ⟨(Turn.refl _ _).drew, held_cons (show wr.drew.heap[_]? = _ from HK.out) (held_nil _)⟩ trivial ?_
      have HG := Grow.held wr [(K, Obj.cells #[.pointer (some ⟨g, 0, none⟩)] 51 (0, 0))]
      have HK0 := HK
      refine atN 0 ?_
      iterate 3
        refine anyG_y HG (v := ?_) rfl (by kernel_rfl) (fun _ _ _ h => h) (fun _ _ _ => Iff.rfl) (Or.inl ⟨by rfl, fun w hSw => ?_⟩) ?_
        rotate_left
        · skip
          have kc := WrCell.at (show WrCell w K g from hSw.2.head)
          first | (go_simp; done) | (go_simp; with_reducible rfl)
        simp only [Nat.reduceAdd, AP]
      refine anyG_y HG (v := .int .i64 65) rfl (by kernel_rfl) (fun _ _ _ h => h) (fun _ _ _ => Iff.rfl) (Or.inl ⟨by rfl, fun w hSw => ?_⟩) ?_
      · go_simp; rfl
      simp only [Nat.reduceAdd, AP]
      refine anyG_tail [4] (k := 4) (by kernel_rfl) (fun w3 hS _ => ?_)
      simp only [List.filterMap_cons, List.filterMap_nil, List.getElem?_toArray, List.getElem?_cons_succ, List.getElem?_cons_zero]
      obtain ⟨hpS, hS⟩ := hS
      clear HG HK0
      have HO := Lib.hid (HO.out.next hpS); have HK : Hid (WrCell w3 K g) := Lib.hid hS.head
      clear hS hpS
      go_wp2_with fail
      refine (step_num (x := 65) (n := 1) (q := ([65, 69] : List UInt8).take 1) HO.out HK.out (.inl rfl) (by decide) (by decide) (by decide)).mono ?_
      rintro x w4 ⟨rfl, o4, s4⟩
      have HO := Lib.hid o4; have HK := Lib.hid s4
      clear o4 s4
      go_wp2
      exact ⟨⟨1, by omega, by first | rfl | trivial, HO, HK⟩, by simp [intOf]⟩
    · go_wp2_with fail
      refine wp_region_G (S := fun w' => Pure wr w' ∧ Held [(K, Obj.cells #[.pointer (some ⟨g, 0, none⟩)] 51 (0, 0))] w') (T := fun _ _ _ => True) (by kernel_rfl) ⟨(Turn.refl _ _).drew, held_cons (show wr.drew.heap[_]? = _ from HK.out) (held_nil _)⟩ trivial ?_
      have HG := Grow.held wr [(K, Obj.cells #[.pointer (some ⟨g, 0, none⟩)] 51 (0, 0))]
      have HK0 := HK
      refine atN 0 ?_
      iterate 3
        refine anyG_y HG (v := ?_) rfl (by kernel_rfl) (fun _ _ _ h => h) (fun _ _ _ => Iff.rfl) (Or.inl ⟨by rfl, fun w hSw => ?_⟩) ?_
        rotate_left
        · skip
          have kc := WrCell.at (show WrCell w K g from hSw.2.head)
          first | (go_simp; done) | (go_simp; with_reducible rfl)
        simp only [Nat.reduceAdd, AP]
      refine anyG_y HG (v := .int .i64 69) rfl (by kernel_rfl) (fun _ _ _ h => h) (fun _ _ _ => Iff.rfl) (Or.inl ⟨by rfl, fun w hSw => ?_⟩) ?_
      · go_simp; rfl
      simp only [Nat.reduceAdd, AP]
      refine anyG_tail [4] (k := 4) (by kernel_rfl) (fun w3 hS _ => ?_)
      simp only [List.filterMap_cons, List.filterMap_nil, List.getElem?_toArray, List.getElem?_cons_succ, List.getElem?_cons_zero]
      obtain ⟨hpS, hS⟩ := hS
      clear HG HK0
      have HO := Lib.hid (HO.out.next hpS); have HK : Hid (WrCell w3 K g) := Lib.hid hS.head
      clear hS hpS
      go_wp2_with fail
      refine (step_num (x := 69) (n := 1) (q := ([65, 69] : List UInt8).take 2) HO.out HK.out (.inl rfl) (by decide) (by decide) (by decide)).mono ?_
      rintro x w4 ⟨rfl, o4, s4⟩
      have HO := Lib.hid o4; have HK := Lib.hid s4
      clear o4 s4
      go_wp2
      exact ⟨⟨2, by omega, by first | rfl | trivial, HO, HK⟩, by simp [intOf]⟩
    · have HE : Hid (wr.heap[ge]? = some (Obj.cells (entC e).toArray 47 (0, 0))) := Lib.hid (HO.out.own.pure.obj HE.out (fun e => e))
      rw [show ([65, 69] : List UInt8).take 2 = [65, 69] from rfl] at HO
      go_wp2_with fail
      refine wp_region_G (S := fun w' => Pure wr w' ∧ Held [(K, Obj.cells #[.pointer (some ⟨g, 0, none⟩)] 51 (0, 0)), (ge, Obj.cells (entC e).toArray 47 (0, 0))] w') (T := fun _ _ _ => True) (by kernel_rfl) ⟨(Turn.refl _ _).drew, held_cons (show wr.drew.heap[_]? = _ from HK.out) (held_cons (show wr.drew.heap[_]? = _ from HE.out) (held_nil _))⟩ trivial ?_
      have HG := Grow.held wr [(K, Obj.cells #[.pointer (some ⟨g, 0, none⟩)] 51 (0, 0)), (ge, Obj.cells (entC e).toArray 47 (0, 0))]
      have HK0 := HK
      refine atN 0 ?_
      iterate 5
        refine anyG_y HG (v := ?_) rfl (by kernel_rfl) (fun _ _ _ h => h) (fun _ _ _ => Iff.rfl) (Or.inl ⟨by rfl, fun w hSw => ?_⟩) ?_
        rotate_left
        · skip
          have kc := WrCell.at (show WrCell w K g from hSw.2.head)
          obtain ⟨c0, c1, c2, c35, _, _⟩ := ent_at HA.out.root (show w.heap[ge]? = _ from hSw.2.tail.head); rw [EUS.out.1] at c0; rw [EUS.out.2] at c1; rw [EVT.out.1] at c2; rw [EVT.out.2] at c35
          first | (go_simp; done) | (go_simp; with_reducible rfl)
        simp only [Nat.reduceAdd, AP]
      refine anyG_tail [5] (k := 5) (by kernel_rfl) (fun w5a hS _ => ?_)
      simp only [List.filterMap_cons, List.filterMap_nil, List.getElem?_toArray, List.getElem?_cons_succ, List.getElem?_cons_zero]
      obtain ⟨hpS, hS⟩ := hS
      clear HG HK0
      have HO := Lib.hid (HO.out.next hpS); have HK : Hid (WrCell w5a K g) := Lib.hid hS.head
      have HE := Lib.hid hS.tail.head
      clear hS hpS
      go_wp2_with fail
      refine (H1.out _ _ _ HO.out HK.out).mono ?_
      rintro x w5 ⟨rfl, o5, s5⟩
      have HE : Hid (w5.heap[ge]? = some (Obj.cells (entC e).toArray 47 (0, 0))) := Lib.hid (o5.own.pure.obj HE0.out (fun e => e))
      have HO := Lib.hid o5; have HK := Lib.hid s5
      clear o5 s5
      go_wp2_with fail
      refine wp_region_G (S := fun w' => Pure w5 w' ∧ Held [(K, Obj.cells #[.pointer (some ⟨g, 0, none⟩)] 51 (0, 0)), (ge, Obj.cells (entC e).toArray 47 (0, 0))] w') (T := fun _ _ _ => True) (by kernel_rfl) ⟨(Turn.refl _ _).drew, held_cons (show w5.drew.heap[_]? = _ from HK.out) (held_cons (show w5.drew.heap[_]? = _ from HE.out) (held_nil _))⟩ trivial ?_
      have HG := Grow.held w5 [(K, Obj.cells #[.pointer (some ⟨g, 0, none⟩)] 51 (0, 0)), (ge, Obj.cells (entC e).toArray 47 (0, 0))]
      have HK0 := HK
      refine atN 0 ?_
      iterate 5
        refine anyG_y HG (v := ?_) rfl (by kernel_rfl) (fun _ _ _ h => h) (fun _ _ _ => Iff.rfl) (Or.inl ⟨by rfl, fun w hSw => ?_⟩) ?_
        rotate_left
        · skip
          have kc := WrCell.at (show WrCell w K g from hSw.2.head)
          obtain ⟨c0, c1, c2, c35, _, _⟩ := ent_at HA.out.root (show w.heap[ge]? = _ from hSw.2.tail.head); rw [EUS.out.1] at c0; rw [EUS.out.2] at c1; rw [EVT.out.1] at c2; rw [EVT.out.2] at c35
          first | (go_simp; done) | (go_simp; with_reducible rfl)
        simp only [Nat.reduceAdd, AP]
      refine anyG_tail [5] (k := 5) (by kernel_rfl) (fun w6a hS _ => ?_)
      simp only [List.filterMap_cons, List.filterMap_nil, List.getElem?_toArray, List.getElem?_cons_succ, List.getElem?_cons_zero]
      obtain ⟨hpS, hS⟩ := hS
      clear HG HK0
      have HO := Lib.hid (HO.out.next hpS); have HK : Hid (WrCell w6a K g) := Lib.hid hS.head
      have HE := Lib.hid hS.tail.head
      clear hS hpS
      go_wp2_with fail
      refine (H2.out _ _ _ HO.out HK.out).mono ?_
      rintro x w6 ⟨rfl, o6, s6⟩
      have HE : Hid (w6.heap[ge]? = some (Obj.cells (entC e).toArray 47 (0, 0))) := Lib.hid (o6.own.pure.obj HE0.out (fun e => e))
      have HO := Lib.hid o6; have HK := Lib.hid s6
      clear o6 s6
      go_wp2_with fail
      refine wp_region_G (S := fun w' => Pure w6 w' ∧ Held [(K, Obj.cells #[.pointer (some ⟨g, 0, none⟩)] 51 (0, 0)), (ge, Obj.cells (entC e).toArray 47 (0, 0))] w') (T := fun _ _ _ => True) (by kernel_rfl) ⟨(Turn.refl _ _).drew, held_cons (show w6.drew.heap[_]? = _ from HK.out) (held_cons (show w6.drew.heap[_]? = _ from HE.out) (held_nil _))⟩ trivial ?_
      have HG := Grow.held w6 [(K, Obj.cells #[.pointer (some ⟨g, 0, none⟩)] 51 (0, 0)), (ge, Obj.cells (entC e).toArray 47 (0, 0))]
      have HK0 := HK
      refine atN 0 ?_
      iterate 6
        refine anyG_y HG (v := ?_) rfl (by kernel_rfl) (fun _ _ _ h => h) (fun _ _ _ => Iff.rfl) (Or.inl ⟨by rfl, fun w hSw => ?_⟩) ?_
        rotate_left
        · skip
          have kc := WrCell.at (show WrCell w K g from hSw.2.head)
          obtain ⟨c0, c1, c2, c35, _, _⟩ := ent_at HA.out.root (show w.heap[ge]? = _ from hSw.2.tail.head); rw [EUS.out.1] at c0; rw [EUS.out.2] at c1; rw [EVT.out.1] at c2; rw [EVT.out.2] at c35
          first | (go_simp; done) | (go_simp; with_reducible rfl)
        simp only [Nat.reduceAdd, AP]
      refine anyG_tail [6] (k := 6) (by kernel_rfl) (fun w7a hS _ => ?_)
      simp only [List.filterMap_cons, List.filterMap_nil, List.getElem?_toArray, List.getElem?_cons_succ, List.getElem?_cons_zero]
      obtain ⟨hpS, hS⟩ := hS
      clear HG HK0
      have HO := Lib.hid (HO.out.next hpS); have HK : Hid (WrCell w7a K g) := Lib.hid hS.head
      have HE := Lib.hid hS.tail.head
      clear hS hpS
      go_wp2_with fail
      refine (H3.out _ _ _ HO.out HK.out).mono ?_
      rintro x w7 ⟨rfl, o7, s7⟩
      have HE : Hid (w7.heap[ge]? = some (Obj.cells (entC e).toArray 47 (0, 0))) := Lib.hid (o7.own.pure.obj HE0.out (fun e => e))
      have HO := Lib.hid o7; have HK := Lib.hid s7
      clear o7 s7
      have ⟨c0, c1, c2, c35, _, _⟩ := ent_at HA.out.root HE.out
      rw [EVT.out.1] at c2
      go_wp2_with fail
      refine (eachInt_any w _ g K B3 _ e.p.vec HVV.out HO.out HK.out HVI.out hv16 (by omega)).mono ?_
      rintro x w8 ⟨rfl, o8, s8⟩
      rw [← HB4.out] at o8
      clear c0 c1 c2 c35
      have HE : Hid (w8.heap[ge]? = some (Obj.cells (entC e).toArray 47 (0, 0))) := Lib.hid (o8.own.pure.obj HE0.out (fun e => e))
      have HO := Lib.hid o8; have HK := Lib.hid s8
      clear o8 s8
      go_wp2_with fail
      refine wp_region_G (S := fun w' => Pure w8 w' ∧ Held [(K, Obj.cells #[.pointer (some ⟨g, 0, none⟩)] 51 (0, 0)), (ge, Obj.cells (entC e).toArray 47 (0, 0))] w') (T := fun _ _ _ => True) (by kernel_rfl) ⟨(Turn.refl _ _).drew, held_cons (show w8.drew.heap[_]? = _ from HK.out) (held_cons (show w8.drew.heap[_]? = _ from HE.out) (held_nil _))⟩ trivial ?_
      have HG := Grow.held w8 [(K, Obj.cells #[.pointer (some ⟨g, 0, none⟩)] 51 (0, 0)), (ge, Obj.cells (entC e).toArray 47 (0, 0))]
      have HK0 := HK
      refine atN 0 ?_
      iterate 4
        refine anyG_y HG (v := ?_) rfl (by kernel_rfl) (fun _ _ _ h => h) (fun _ _ _ => Iff.rfl) (Or.inl ⟨by rfl, fun w hSw => ?_⟩) ?_
        rotate_left
        · skip
          have kc := WrCell.at (show WrCell w K g from hSw.2.head)
          obtain ⟨c0, c1, c2, c35, _, _⟩ := ent_at HA.out.root (show w.heap[ge]? = _ from hSw.2.tail.head); rw [EUS.out.1] at c0; rw [EUS.out.2] at c1; rw [EVT.out.1] at c2; rw [EVT.out.2] at c35
          first | (go_simp; done) | (go_simp; with_reducible rfl)
        simp only [Nat.reduceAdd, AP]
      refine anyG_y HG (v := hv e.p.root) rfl (by kernel_rfl) (fun _ _ _ h => h) (fun _ _ _ => Iff.rfl) (yieldsIf_load_mid (by rfl) 45 _ rfl ge 3 rfl (u8s e.p.root) _ (fun w hSw => (ent_at HA.out.root (show w.heap[ge]? = _ from hSw.2.tail.head)).2.2.2.2.2) Try.underlying45 rfl (info28_l HA.out.root)) ?_
      simp only [Nat.reduceAdd, AP]
      refine anyG_tail [5] (k := 5) (by kernel_rfl) (fun w9a hS _ => ?_)
      simp only [List.filterMap_cons, List.filterMap_nil, List.getElem?_toArray, List.getElem?_cons_succ, List.getElem?_cons_zero]
      obtain ⟨hpS, hS⟩ := hS
      clear HG HK0
      have HO := Lib.hid (HO.out.next hpS); have HK : Hid (WrCell w9a K g) := Lib.hid hS.head
      have HE := Lib.hid hS.tail.head
      clear hS hpS
      go_wp2_with fail
      refine (H5.out _ _ _ HO.out HK.out).mono ?_
      rintro x w9 ⟨rfl, o9, s9⟩
      have HE : Hid (w9.heap[ge]? = some (Obj.cells (entC e).toArray 47 (0, 0))) := Lib.hid (o9.own.pure.obj HE0.out (fun e => e))
      have HO := Lib.hid o9; have HK := Lib.hid s9
      clear o9 s9
      go_wp2_with fail
      refine wp_region_G (S := fun w' => Pure w9 w' ∧ Held [(K, Obj.cells #[.pointer (some ⟨g, 0, none⟩)] 51 (0, 0)), (ge, Obj.cells (entC e).toArray 47 (0, 0))] w') (T := fun _ _ _ => True) (by kernel_rfl) ⟨(Turn.refl _ _).drew, held_cons (show w9.drew.heap[_]? = _ from HK.out) (held_cons (show w9.drew.heap[_]? = _ from HE.out) (held_nil _))⟩ trivial ?_
      have HG := Grow.held w9 [(K, Obj.cells #[.pointer (some ⟨g, 0, none⟩)] 51 (0, 0)), (ge, Obj.cells (entC e).toArray 47 (0, 0))]
      have HK0 := HK
      refine atN 0 ?_
      iterate 6
        refine anyG_y HG (v := ?_) rfl (by kernel_rfl) (fun _ _ _ h => h) (fun _ _ _ => Iff.rfl) (Or.inl ⟨by rfl, fun w hSw => ?_⟩) ?_
        rotate_left
        · skip
          have kc := WrCell.at (show WrCell w K g from hSw.2.head)
          obtain ⟨c0, c1, c2, c35, _, _⟩ := ent_at HA.out.root (show w.heap[ge]? = _ from hSw.2.tail.head); rw [EUS.out.1] at c0; rw [EUS.out.2] at c1; rw [EVT.out.1] at c2; rw [EVT.out.2] at c35
          first | (go_simp; done) | (go_simp; with_reducible rfl)
        simp only [Nat.reduceAdd, AP]
      refine anyG_tail [6] (k := 6) (by kernel_rfl) (fun w10a hS _ => ?_)
      simp only [List.filterMap_cons, List.filterMap_nil, List.getElem?_toArray, List.getElem?_cons_succ, List.getElem?_cons_zero]
      obtain ⟨hpS, hS⟩ := hS
      clear HG HK0
      have HO := Lib.hid (HO.out.next hpS); have HK : Hid (WrCell w10a K g) := Lib.hid hS.head
      have HE := Lib.hid hS.tail.head
      clear hS hpS
      go_wp2_with fail
      refine (H6.out _ _ _ HO.out HK.out).mono ?_
      rintro x w10 ⟨rfl, o10, s10⟩
      have HE : Hid (w10.heap[ge]? = some (Obj.cells (entC e).toArray 47 (0, 0))) := Lib.hid (o10.own.pure.obj HE0.out (fun e => e))
      have HO := Lib.hid o10; have HK := Lib.hid s10
      clear o10 s10
      go_wp2_with fail
      refine wp_region_G (S := fun w' => Pure w10 w' ∧ Held [(K, Obj.cells #[.pointer (some ⟨g, 0, none⟩)] 51 (0, 0)), (ge, Obj.cells (entC e).toArray 47 (0, 0))] w') (T := fun _ _ _ => True) (by kernel_rfl) ⟨(Turn.refl _ _).drew, held_cons (show w10.drew.heap[_]? = _ from HK.out) (held_cons (show w10.drew.heap[_]? = _ from HE.out) (held_nil _))⟩ trivial ?_
      have HG := Grow.held w10 [(K, Obj.cells #[.pointer (some ⟨g, 0, none⟩)] 51 (0, 0)), (ge, Obj.cells (entC e).toArray 47 (0, 0))]
      have HK0 := HK
      refine atN 0 ?_
      iterate 6
        refine anyG_y HG (v := ?_) rfl (by kernel_rfl) (fun _ _ _ h => h) (fun _ _ _ => Iff.rfl) (Or.inl ⟨by rfl, fun w hSw => ?_⟩) ?_
        rotate_left
        · skip
          have kc := WrCell.at (show WrCell w K g from hSw.2.head)
          obtain ⟨c0, c1, c2, c35, _, _⟩ := ent_at HA.out.root (show w.heap[ge]? = _ from hSw.2.tail.head); rw [EUS.out.1] at c0; rw [EUS.out.2] at c1; rw [EVT.out.1] at c2; rw [EVT.out.2] at c35
          first | (go_simp; done) | (go_simp; with_reducible rfl)
        simp only [Nat.reduceAdd, AP]
      refine anyG_tail [6] (k := 6) (by kernel_rfl) (fun w11a hS _ => ?_)
      simp only [List.filterMap_cons, List.filterMap_nil, List.getElem?_toArray, List.getElem?_cons_succ, List.getElem?_cons_zero]
      obtain ⟨hpS, hS⟩ := hS
      clear HG HK0
      have HO := Lib.hid (HO.out.next hpS); have HK : Hid (WrCell w11a K g) := Lib.hid hS.head
      have HE := Lib.hid hS.tail.head
      clear hS hpS
      go_wp2_with fail
      refine (eachHash_any w _ g K B6 _ e.p.tabs HTV.out HO.out HK.out (by omega) (by omega)).mono ?_
      rintro x w11 ⟨rfl, o11, s11⟩
      rw [HB7.out] at o11
      have HE : Hid (w11.heap[ge]? = some (Obj.cells (entC e).toArray 47 (0, 0))) := Lib.hid (o11.own.pure.obj HE0.out (fun e => e))
      have HO := Lib.hid o11; have HK := Lib.hid s11
      clear o11 s11
      have kc := HK.out.at
      go_wp2
      go_ret
      exact ⟨g, rfl, HO.out.own⟩
end Go.Proofs.Ytigkmdjdnkbdkaa
