/- Chapter 14: a table is read. -/
import Derived.Test.YthfekopimmgdmaaItab4
namespace Go.Proofs.Ythfekopimmgdmaa
open Go.RowKit

theorem new_cell (w : World) (v0 v : Value) (T : TypeId) : ((w.alloc (.cells #[v0] T)).setCell ⟨w.heap.size, 0, none⟩ v).heap[w.heap.size]? = some (.cells #[v] T (0, 0)) ∧ Pure w ((w.alloc (.cells #[v0] T)).setCell ⟨w.heap.size, 0, none⟩ v) ∧ ((w.alloc (.cells #[v0] T)).setCell ⟨w.heap.size, 0, none⟩ v).heap.size = w.heap.size + 1 := by
  refine ⟨heap_set_cell (heap_alloc_new w _), ?_, by simp [World.setCell]⟩
  exact ((Turn.refl (fun _ => False) w).alloc _).setCell (p := ⟨w.heap.size, 0, none⟩) (fun h => absurd h (Nat.lt_irrefl _)) v
theorem tabD_succ (s : List UInt8) (n : Nat) : tabD s (n + 1) = tabD s n ++ [inoD (s.drop (38 * n))] := by
  induction n generalizing s with
  | zero => simp [tabD]
  | succ n ih =>
    rw [tabD, ih (s.drop 38), List.drop_drop]
    simp only [tabD, List.cons_append]
    rw [show 38 + 38 * n = 38 * (n + 1) from by omega]
theorem inoD_root {s : List UInt8} (h : 38 ≤ s.length) : (inoD s).root.length = 32 := by simp [inoD]; omega
theorem partsN : ∃ i z, Hid (Try.prog.info? 41 = some i) ∧ i.zero = some z ∧ i.size = 37 ∧ i.bytes = 72 ∧ z.cells.size = 37 := by
  have h : (Try.prog.info? 41).map (fun i => (i.zero, i.size, i.bytes)) = some (some (Value.agg (inoC ⟨0, 0, 0, 0, 0, List.replicate 32 0⟩).toArray), 37, 72) := by kernel_rfl
  cases hi : Try.prog.info? 41 with
  | none => rw [hi] at h; simp at h
  | some i =>
    rw [hi] at h
    simp only [Option.map_some, Option.some.injEq, Prod.mk.injEq] at h
    exact ⟨i, _, Lib.hid rfl, h.1, h.2.1, h.2.2, by simp [Value.cells, inoC, u8s_length]⟩

set_option maxRecDepth 100000 in
set_option maxHeartbeats 4000000 in
theorem Get1_any (w : World) (gv g : Nat) (s : List UInt8) (hv0 : w.heap[gv]? = some (.cells #[.pointer (some ⟨g, 0, none⟩)] 71 (0, 0))) (h : IsRd 117 w g s) :
    Calls Try.prog 37 #[.pointer (some ⟨gv, 0, none⟩)] w fun e w' => ∃ X err r, e = .returned (.tuple #[.agg (inoC X).toArray, .int .i64 err]) ∧ X.root.length = 32 ∧ RdIno s X err r ∧ Read 117 w w' g r := by
  have hlt := h.lt
  have HRD := Lib.hid h; have HV0 := Lib.hid hv0
  clear h hv0
  obtain ⟨Z, hZl, HZ⟩ := zeroN
  go_enter Try.func37, Try.ntmps37
  go_wp2_with (refine wpList_allocZ rfl 41 rfl Z HZ.out ?_)
  intro g1 w1 e1 c1 t1 s1
  have l1 : w.heap.size ≤ g1 := by omega
  have n1 : g1 ≠ g := by omega
  clear e1 s1
  have hv1 := t1.obj HV0.out (fun e => e)
  have k1 : w1.cell? ⟨gv, 0, none⟩ = some (.pointer (some ⟨g, 0, none⟩)) := by rw [cell_of_row w1 gv 0 _ _ _ hv1]; rfl
  have D1 := Lib.hid c1; have RD := Lib.hid (Read.same HRD.out t1)
  clear c1 t1 hv1 HV0 HRD
  go_wp2_with fail
  refine (inode_any _ g s RD.out.rd).mono ?_
  rintro e w2 ⟨X, err, r, rfl, hx, hR, r2⟩
  have D1 := Lib.hid (r2.turn.obj D1.out n1); have RD := Lib.hid (RD.out.trans r2); have HR := Lib.hid hR
  have hC := inoC_length hx
  have hone := inoC_one X
  clear r2 k1 hR
  obtain ⟨C, hCd⟩ : ∃ C, C = inoC X := ⟨_, rfl⟩
  rw [← hCd] at hC hone ⊢
  have HC := Lib.hid hCd
  clear hCd
  go_wp2_with (refine wpList_store_blk rfl 41 _ _ rfl g1 _ C _ rfl rfl D1.out (by simp [hZl, hC]) (by rw [infoN, hC]) hone ?_)
  intro w3 c3 t3 _
  have hO := Lib.hid c3
  have RD3 : Hid (Read 117 w w3 g r) := Lib.hid ⟨RD.out.rd.turn t3 (Ne.symm n1), RD.out.turn.trans t3 fun q hq e => by omega⟩
  clear c3 t3
  go_wp2
  exact bodyPost_ret (v := .tuple #[.agg C.toArray, .int .i64 err]) (results_cell2 Try.results37 _ _ g1 _ C.toArray _ _ rfl hO.out Try.underlying41 rfl (by rw [infoN, List.size_toArray, hC])) rfl ⟨X, err, r, by rw [HC.out], hx, HR.out, RD3.out⟩

set_option maxRecDepth 100000 in
set_option maxHeartbeats 4000000 in
theorem Many_any (w : World) (n gv g : Nat) (s : List UInt8) (hn : n ≤ 255) (hv0 : w.heap[gv]? = some (.cells #[.pointer (some ⟨g, 0, none⟩)] 71 (0, 0))) (hne : gv ≠ g) (h : IsRd 117 w g s) :
    Calls Try.prog 36 #[.int .i64 (n : Int), .func (.func 37) #[] #[.pointer (some ⟨gv, 0, none⟩)]] w fun e w' => ∃ r err, e = .returned (.tuple #[r, .int .i64 err]) ∧
      (err = 0 ∧ 38 * n ≤ s.length ∧ Rows inoC 37 w' r (tabD s n) ∨ err ≠ 0 ∧ s.length < 38 * n ∧ r = .slice none 0 0) ∧ Turn (fun k => k = g) w w' := by
  have hlt := h.lt
  have HRD := Lib.hid h; have HV0 := Lib.hid hv0
  clear h hv0
  obtain ⟨Z, hZl, HZ⟩ := zeroN
  obtain ⟨iN, zN, HIN, hzN, hszN, hbyN, hzsN⟩ := partsN
  go_enter Try.func36, Try.ntmps36
  go_wp2
  go_loopw [6, 10] (fun v i wr => ∃ (j : Nat) (ao : Option Addr) (c : Nat), j ≤ n ∧ 38 * j ≤ s.length ∧ v = .slice ao j c ∧ i = .int .i64 (j : Int) ∧ Hid (wr.ownsRow 0 41 37 (.slice ao j c) j (rowOf inoC (tabD s j))) ∧ Hid (∀ q, (Value.slice ao j c).ownBlock = some q → w.heap.size ≤ q) ∧ Hid (IsRd 117 wr g (s.drop (38 * j))) ∧ Hid (wr.heap[gv]? = some (.cells #[.pointer (some ⟨g, 0, none⟩)] 71 (0, 0))) ∧ Hid (Turn (fun k => k = g) w wr)) (fun _ i _ => n - (intOf i).toNat)
  case atStart => exact ⟨0, none, 0, by omega, by omega, rfl, rfl, Lib.hid (World.ownsRow_nil _ _ _ _), Lib.hid (fun q hq => by simp [Value.ownBlock] at hq), Lib.hid (by rw [Nat.mul_zero, List.drop_zero]; exact HRD.out), HV0, Lib.hid (Turn.refl _ _)⟩
  case round =>
    obtain ⟨j, ao, c, hj, hjs, rfl, rfl, HO, HLO, HR, HV, HT⟩ := hrel
    by_cases hlt2 : j < n
    · have q1 : (j : Int) < n := by omega
      have i3 : IntKind.i64.wrap ((j : Int) + 1) = ((j + 1 : Nat) : Int) := by rw [IntWalk.i64_in _ (by omega)]; omega
      go_wp2_with fail
      refine (Get1_any _ gv g _ HV.out HR.out).mono ?_
      rintro e w5 ⟨X, err, r, rfl, hx, hRI, r5⟩
      have HO := Lib.hid (r5.turn.own HO.out (fun q hq e => by have := HLO.out q hq; omega)); have HV := Lib.hid (r5.turn.obj HV.out hne); have HT := Lib.hid (HT.out.trans r5.turn fun _ _ e => e); have HR := Lib.hid r5.rd
      have hC := inoC_length hx
      have hone := inoC_one X
      clear r5
      obtain ⟨C, hCd⟩ : ∃ C, C = inoC X := ⟨_, rfl⟩
      rw [← hCd] at hC hone ⊢
      by_cases h38 : 38 ≤ (s.drop (38 * j)).length
      · obtain ⟨e1, rfl, rfl⟩ := hRI.ok h38
        have hnx : rowOf inoC (tabD s j) ++ C = rowOf inoC (tabD s (j + 1)) := by rw [tabD_succ, rowOf_app, hCd, e1]; simp [rowOf]
        have hjs2 : 38 * (j + 1) ≤ s.length := by rw [List.length_drop] at h38; omega
        have HNX := Lib.hid hnx
        have hdr : (s.drop (38 * j)).drop 38 = s.drop (38 * (j + 1)) := by rw [List.drop_drop]; congr 1
        rw [hdr] at HR
        clear hRI hnx hCd e1 h38 hdr
        go_wp2_with (refine wpList_allocZ rfl 41 rfl Z HZ.out ?_)
        intro g7 w6 e6 c6 t6 s6
        have l7 : w5.heap.size ≤ g7 := by omega
        clear e6 s6
        go_wp2_with (refine wpList_store_blk rfl 41 _ _ rfl g7 _ C _ rfl rfl c6 (by simp [hZl, hC]) (by rw [infoN, hC]) hone ?_)
        intro w7 c7 t7 _
        have hp7 : Pure w5 w7 := t6.trans t7 fun q hq e => by omega
        have HO := Lib.hid (hp7.own HO.out (fun _ _ e => e)); have HV := Lib.hid (hp7.obj HV.out (fun e => e)); have HT := Lib.hid (HT.out.pure hp7); have HR := Lib.hid (HR.out.turn hp7 (fun e => e))
        have R7 := Lib.hid (range_of_row c7)
        clear c6 t6 c7 t7 hp7
        have hA : Pure w7 (w7.alloc (.cells C.toArray 41)) := (Turn.refl _ _).alloc _
        have hs8 : Src Try.prog 37 22 (.slice (some ⟨w7.heap.size, 0, none⟩) 1 1) 1 C (w7.alloc (.cells C.toArray 41)) :=
          Src.ofSlice _ Try.underlying22 _ _ _ _ (by rw [hC]) (fun q u hu => by rw [Addr.add_mid]; exact range_of_row (heap_alloc_new w7 _) q u hu) hone
        have HO8 := Lib.hid (hA.own HO.out (fun _ _ e => e)); have HV8 := Lib.hid (hA.obj HV.out (fun e => e)); have HT8 := Lib.hid (HT.out.pure hA); have HR8 := Lib.hid (HR.out.turn hA (fun e => e)); have HS8 := Lib.hid hs8
        have hgv : gv < w7.heap.size := (Array.getElem?_eq_some_iff.1 HV.out).1
        have hgt : g < w7.heap.size := HR.out.lt
        have hwz := HT.out.size
        clear hA hs8 HO HV HT HR
        go_wp2_with (first | (refine wpList_load_mid rfl 41 _ rfl g7 0 rfl C _ R7.out Try.underlying41 rfl (by rw [infoN, hC]) ?_) | (refine wpList_buildSlice_one rfl 22 41 _ rfl iN _ 37 C Try.underlying22 HIN.out hzN hszN (by decide) (by decide) rfl hC ?_) | (at_builtin; refine wpList_append_turn _ rfl _ _ 22 22 41 rfl iN _ 37 72 Try.underlying22 HIN.out hzN hszN hbyN hzsN _ _ _ rfl HO8.out _ rfl 1 _ HS8.out (by omega) (by omega) ?_))
        intro ao9 c9 w9 o9 t9 b9
        rw [HNX.out] at o9
        have hg8 : ∀ q, (Value.slice ao j c).ownBlock = some q → w.heap.size ≤ q := HLO.out
        have HLO9 : Hid (∀ q, (Value.slice ao9 (j + 1) c9).ownBlock = some q → w.heap.size ≤ q) := Lib.hid fun q hq => by
          rcases b9.out with e | e
          · exact HLO.out q (e ▸ hq)
          · have := Option.some.inj (e.symm.trans hq)
            have hsz : (w7.alloc (.cells C.toArray 41)).heap.size = w7.heap.size + 1 := by simp
            omega
        have hng : (Value.slice ao j c).ownBlock ≠ some g := fun e => by have := hg8 g e; omega
        have HT9 := Lib.hid (HT8.out.trans t9 fun q hq e => by have := hg8 q e; omega)
        have HR9 := Lib.hid (HR8.out.turn t9 hng)
        by_cases hgb : (Value.slice ao j c).ownBlock = some gv
        · exfalso
          obtain ⟨_, hh⟩ := HO8.out
          rcases hh with ⟨e0, _⟩ | ⟨gx, cap, cur, e0, _, hgx, _⟩
          · simp only [Value.slice.injEq] at e0
            rw [e0.1] at hgb
            simp [Value.ownBlock] at hgb
          · rw [e0] at hgb
            simp only [Value.ownBlock, Option.some.injEq] at hgb
            rw [hgb, HV8.out] at hgx
            simp at hgx
        have HV9 := Lib.hid (t9.obj HV8.out hgb)
        have HO9 := Lib.hid o9
        clear o9 t9 b9 hgb hng HO8 HV8 HT8 HR8 HS8
        go_wp2
        exact ⟨⟨j + 1, ao9, c9, by omega, hjs2, rfl, by first | rfl | trivial | go_num, HO9, HLO9, HR9, HV9, HT9⟩, by simp [intOf]; omega⟩
      · have he := hRI.bad (by omega)
        have hjs2 : s.length < 38 * n := by rw [List.length_drop] at h38; omega
        subst he
        clear hRI h38 hCd
        go_wp2_with (refine wpList_allocZ rfl 41 rfl Z HZ.out ?_)
        intro g7 w6 e6 c6 t6 s6
        have l7 : w5.heap.size ≤ g7 := by omega
        clear e6 s6
        go_wp2_with (refine wpList_store_blk rfl 41 _ _ rfl g7 _ C _ rfl rfl c6 (by simp [hZl, hC]) (by rw [infoN, hC]) hone ?_)
        intro w7 c7 t7 _
        have hp7 : Pure w5 w7 := t6.trans t7 fun q hq e => by omega
        have HT := Lib.hid (HT.out.pure hp7)
        clear c6 t6 c7 t7 hp7 HO HV HR
        go_wp2
        go_ret2
        exact ⟨_, _, rfl, Or.inr ⟨by decide, hjs2, rfl⟩, HT.out⟩
    · obtain rfl : j = n := by omega
      have q1 : ¬ ((j : Int) < j) := by omega
      have hroot : ∀ x ∈ tabD s j, (inoC x).length = 37 := fun x hx => inoC_length (tabD_root j s hjs x hx)
      have HROW := Lib.hid (Rows.own (by decide) HO.out hroot)
      have HJS := Lib.hid hjs
      clear hjs hroot
      go_wp2
      go_ret2
      exact ⟨_, _, rfl, Or.inl ⟨rfl, HJS.out, HROW.out⟩, HT.out⟩
end Go.Proofs.Ythfekopimmgdmaa
