/- Chapter 14: the reference's GetItab. -/
import Derived.Test.YthfekopimmgdmaaItab6
namespace Go.Proofs.Ythfekopimmgdmaa
open Go.RowKit

theorem index_bstr (w : World) (s : List UInt8) (i : Int) (j : Nat) (hj : i = (j : Int)) (hlt : j < s.length) :
    (Instr.index 9 (.string (bstr s)) (.int .i64 i)).run Try.prog w = .ok (.int .u8 ((s.getD j 0).toNat : Int)) w := by
  subst hj
  have hz := bstr_size s
  rw [run_index_string (P := Try.prog) (w := w) 9 _ _ _ Try.underlying9]
  have e : ((j : Int)).toNat = j := by omega
  have h2 : j < (bstr s).size := by omega
  simp [e, h2, bstr_get]
theorem fill_off (off : Nat) : ∀ (l : List Value) (k : Nat) (c : Array Value), off + k + l.length = c.size → (l.zipIdx k).foldl (fun cs (x : Value × Nat) => cs.setIfInBounds (off + x.2) x.1) c = (c.toList.take (off + k) ++ l).toArray
  | [], k, c, h => by
    simp at h
    simp [h]
    rw [show c.size = c.toList.length from by simp, List.take_length]
  | v :: l, k, c, h => by
    simp at h
    rw [List.zipIdx_cons, List.foldl_cons, fill_off off l (k + 1) _ (by simp; omega)]
    congr 1
    simp only [Array.toList_setIfInBounds]
    have hk : off + k < c.toList.length := by simp; omega
    rw [← Nat.add_assoc, List.take_add_one, List.take_set_of_le (Nat.le_refl _), List.getElem?_set_self hk]
    simp
theorem built_fill (l : List (Nat × Value)) : Try.prog.built 41 l = Instr.fill ((#[(0, 1), (1, 1), (2, 1), (3, 1), (4, 1), (5, 32)] : Array (Nat × Nat))[·]?) (inoC ⟨0, 0, 0, 0, 0, List.replicate 32 0⟩).toArray l := by kernel_rfl
theorem builtN (x : Ino) (h : x.root.length = 32) : Try.prog.built 41 [(0, .int .i64 x.num), (1, .int .i64 x.kind), (2, .int .i64 x.mode), (3, .int .i64 x.links), (4, .int .i64 x.size), (5, hv x.root)] = some (inoC x).toArray := by
  rw [built_fill]
  have hz : (u8s (List.replicate 32 (0 : UInt8))).length = 32 := by rw [u8s_length]; simp
  have hl : (u8s x.root).length = 32 := by rw [u8s_length, h]
  simp only [inoC, hv]
  generalize u8s (List.replicate 32 (0 : UInt8)) = Z at hz ⊢
  generalize u8s x.root = R at hl ⊢
  have hf := fill_off 5 R 0 ([Value.int .i64 x.num, .int .i64 x.kind, .int .i64 x.mode, .int .i64 x.links, .int .i64 x.size] ++ Z).toArray (by simp [hz, hl])
  simp [Instr.fill, Value.cells, hz, hl] at hf ⊢
  exact hf
theorem step_buildN {ops : Array Oper} {o : Oper} {a : Act} {w : World} {K : Act → World → Prop} {Q : Exit → Act → World → Prop} {E : Prop} (hgd : o.guard = none) (parts : Array (Nat × Operand)) (ho : o.op = .build 41 parts) (x : Ino) (hx : x.root.length = 32)
    (hp : (parts.map fun (i, y) => (i, a.eval y)).toList = [(0, .int .i64 x.num), (1, .int .i64 x.kind), (2, .int .i64 x.mode), (3, .int .i64 x.links), (4, .int .i64 x.size), (5, hv x.root)])
    (h : K (a.put o.dst (.agg (inoC x).toArray)) w) : if Region.wanted o (yielded ops a.tmps) = true then Oper.wp Try.prog o a w K Q else E := by
  rw [if_pos (by simp [Region.wanted, hgd])]
  have hb := builtN x hx
  rw [← hp] at hb
  refine wp_build 41 parts ho (by rw [hb]; rfl) ?_
  rw [hb]
  exact h
theorem step_rowN {ops : Array Oper} {o : Oper} {a : Act} {w : World} {K : Act → World → Prop} {Q : Exit → Act → World → Prop} {E : Prop} (hgd : o.guard = none) (y : Operand) (ho : o.op = .buildSlice 22 1 #[(0, y)]) (C : List Value) (hC : C.length = 37) (hy : a.eval y = .agg C.toArray)
    (h : ∀ g w', g = w.heap.size → w'.heap[g]? = some (.cells C.toArray 41 (0, 0)) → Pure w w' → w'.heap.size = g + 1 → K (a.put o.dst (.slice (some ⟨g, 0, none⟩) 1 1)) w') : if Region.wanted o (yielded ops a.tmps) = true then Oper.wp Try.prog o a w K Q else E := by
  rw [if_pos (by simp [Region.wanted, hgd])]
  obtain ⟨iN, zN, HIN, hzN, hszN, hbyN, hzsN⟩ := partsN
  refine wp_buildSlice 22 41 1 #[(0, y)] ho C.toArray iN zN Try.underlying22 HIN.out hzN (by rw [hszN]; omega) (by rw [hszN]; omega) ?_ (h _ _ rfl (heap_alloc_new _ _) ((Turn.refl _ _).alloc _) (by simp))
  rw [hszN]
  have := fill_one 37 C ((Array.range (1 * 37)).map (zN.cells[· % zN.cells.size]!)) hC (by simp)
  simpa [hy] using this
theorem step_appN {ops : Array Oper} {o : Oper} {a : Act} {w : World} {K : Act → World → Prop} {Q : Exit → Act → World → Prop} {E : Prop} (hgd : o.guard = none) (sl y : Operand)
    (ho : o.op = .call { callee := .builtin .append, args := #[sl, y], argTypes := #[22, 22] }) (v : Value) (n : Nat) (xs : List Value) (hv : a.eval sl = v) (hown : w.ownsRow 0 41 37 v n xs) (g : Nat) (C : List Value) (hC : C.length = 37) (h1 : ∀ u ∈ C, u.oneCell' = true)
    (hy : a.eval y = .slice (some ⟨g, 0, none⟩) 1 1) (hg : w.heap[g]? = some (.cells C.toArray 41 (0, 0))) (hn : n ≤ 1000)
    (h : ∀ ao c w', w'.ownsRow 0 41 37 (.slice ao (n + 1) c) (n + 1) (xs ++ C) → Turn (fun k => v.ownBlock = some k) w w' → ((Value.slice ao (n + 1) c).ownBlock = v.ownBlock ∨ (Value.slice ao (n + 1) c).ownBlock = some w.heap.size) → K (a.put o.dst (.slice ao (n + 1) c)) w') : if Region.wanted o (yielded ops a.tmps) = true then Oper.wp Try.prog o a w K Q else E := by
  rw [if_pos (by simp [Region.wanted, hgd])]
  obtain ⟨iN, zN, HIN, hzN, hszN, hbyN, hzsN⟩ := partsN
  have hs : Src Try.prog 37 22 (.slice (some ⟨g, 0, none⟩) 1 1) 1 C w :=
    Src.ofSlice _ Try.underlying22 _ _ _ _ (by rw [hC]) (fun q u hu => by rw [Addr.add_mid]; exact range_of_row hg q u hu) h1
  obtain ⟨v', w', hr, a2, a3, a4, _⟩ := append_turn (P := Try.prog) w 22 22 o.type 41 iN zN 37 72 Try.underlying22 HIN.out hzN hszN hbyN hzsN v n xs hown _ 1 C hs (by omega) (by omega)
  unfold Oper.wp execOp
  simp only [ho, resolve, invoke, builtin, Sem.run_bind, Sem.run_pure, Result.andThen_ok, List.map_toArray, List.map_cons, List.map_nil, hv, hy, hr]
  obtain ⟨ao, c, rfl, _⟩ := ownsRow_shape a2
  exact h ao c w' a2 a3 a4

set_option maxRecDepth 100000 in
set_option maxHeartbeats 4000000 in
theorem GetItab_any (w : World) (s : List UInt8) (hs : s.length ≤ 140737488351232) :
    Calls Try.prog 13 #[.string (bstr s)] w fun e w' => ∃ r, e = .returned (.tuple #[r, .int .i64 (getT s).2]) ∧ Rows inoC 37 w' r (getT s).1 ∧ Pure w w' := by
  have zs := bstr_size s
  obtain ⟨XZ, hXZ, HZ⟩ := ex28
  by_cases h2 : s.length < 2
  · have hGG : getT s = ([], 1400) := by rw [getT, if_pos (.inl h2)]
    have HGG := Lib.hid hGG
    have q0 : decide ((s.length : Int) < 2) = true := decide_eq_true (by omega)
    have q0n : decide (s.length < 2) = true := decide_eq_true h2
    clear hGG
    go_enter Try.func13, Try.ntmps13
    go_wp2
    go_ret2
    exact ⟨.slice none 0 0, by first | (rw [HGG.out]; done) | (rw [HGG.out]; rfl), by rw [HGG.out]; exact rows_nil _ _ _, Turn.refl _ _⟩
  · have q0 : decide ((s.length : Int) < 2) = false := decide_eq_false (by omega)
    have q0n : decide (s.length < 2) = false := decide_eq_false h2
    have ix0 := fun W => index_bstr W s 0 0 rfl (by omega)
    have ix1 := fun W => index_bstr W s 1 1 rfl (by omega)
    have hG : getT s = if s.length < 2 ∨ s.getD 0 0 ≠ 84 ∨ s.length ≠ 2 + 38 * (s.getD 1 0).toNat then ([], 1400) else if tabB (tabD (s.drop 2) (s.getD 1 0).toNat) = true then (tabD (s.drop 2) (s.getD 1 0).toNat, 0) else ([], 1400) := rfl
    have b1 := (s.getD 1 0).toNat_lt
    generalize s.getD 0 0 = A0 at ix0 hG
    generalize (s.getD 1 0).toNat = n at ix1 hG b1
    have i1 : IntKind.i64.wrap (38 * (n : Int)) = 38 * (n : Int) := IntWalk.i64_in _ (by omega)
    have i2 : IntKind.i64.wrap (2 + 38 * (n : Int)) = 2 + 38 * (n : Int) := IntWalk.i64_in _ (by omega)
    by_cases hA : A0 = 84
    · have qa : ((A0.toNat : Int) != 84) = false := by rw [hA]; rfl
      have qan : (A0.toNat != 84) = false := by rw [hA]; rfl
      by_cases hl : s.length = 2 + 38 * n
      · have ql : ((s.length : Int) != 2 + 38 * (n : Int)) = false := by rw [hl]; simp
        rw [if_neg (by simp [hA, hl])] at hG
        have HG := Lib.hid hG
        obtain ⟨sl, hsl⟩ : ∃ sl, sl = s.length := ⟨_, rfl⟩
        have HSL := Lib.hid (And.intro hsl hl)
        rw [← hsl] at zs q0 q0n ql
        have hl' : sl = 2 + 38 * n := by omega
        clear hG hA hl hsl h2
        go_enter Try.func13, Try.ntmps13
        go_wp2
        clear ix0 q0 q0n qa qan ql i1 i2
        go_loopw [4, 5] (fun v i wr => ∃ (j : Nat) (ao : Option Addr) (c : Nat), j ≤ n ∧ v = .slice ao j c ∧ i = .int .i64 (j : Int) ∧ Hid (wr.ownsRow 0 41 37 (.slice ao j c) j (rowOf inoC (tabD (s.drop 2) j))) ∧ Hid (∀ q, (Value.slice ao j c).ownBlock = some q → w.heap.size ≤ q) ∧ Hid (Pure w wr)) (fun _ i _ => n - (intOf i).toNat)
        case atStart => exact ⟨0, none, 0, by omega, rfl, rfl, Lib.hid (World.ownsRow_nil _ _ _ _), Lib.hid (fun q hq => by simp [Value.ownBlock] at hq), Lib.hid (Turn.refl _ _)⟩
        case round =>
          obtain ⟨j, ao, c, hj, rfl, rfl, HO, HLO, HP⟩ := hrel
          by_cases hlt : j < n
          · have q1 : (j : Int) < n := by omega
            have i3 : IntKind.i64.wrap ((j : Int) + 1) = ((j + 1 : Nat) : Int) := by rw [IntWalk.i64_in _ (by omega)]; omega
            have hlen : 2 + 38 * j + 38 ≤ s.length := by have := HSL.out; omega
            obtain ⟨p, hp⟩ : ∃ p, p = 2 + 38 * j := ⟨_, rfl⟩
            have hx38 : 38 ≤ ((s.drop 2).drop (38 * j)).length := by rw [List.length_drop, List.length_drop]; omega
            have hdd : (s.drop 2).drop (38 * j) = s.drop p := by rw [List.drop_drop, hp]
            have hroot := inoD_root hx38
            have hnx : rowOf inoC (tabD (s.drop 2) j) ++ inoC (inoD ((s.drop 2).drop (38 * j))) = rowOf inoC (tabD (s.drop 2) (j + 1)) := by rw [tabD_succ, rowOf_app]; simp [rowOf]
            rw [hdd] at hroot hnx
            have hXd : inoD (s.drop p) = ⟨((s.getD p 0).toNat : Int), ((s.getD (p + 1) 0).toNat : Int), ((s.getD (p + 2) 0).toNat : Int), ((s.getD (p + 3) 0).toNat : Int), (((s.getD (p + 4) 0).toNat * 256 + (s.getD (p + 5) 0).toNat : Nat) : Int), ((s.drop (p + 6)).take 32)⟩ := by
              simp only [inoD, List.getD_eq_getElem?_getD, List.getElem?_drop, List.drop_drop, Nat.add_zero]
            have jx0 := fun W => index_bstr W s (p : Int) p rfl (by omega)
            have jx1 := fun W => index_bstr W s ((p : Int) + 1) (p + 1) (by omega) (by omega)
            have jx2 := fun W => index_bstr W s ((p : Int) + 2) (p + 2) (by omega) (by omega)
            have jx3 := fun W => index_bstr W s ((p : Int) + 3) (p + 3) (by omega) (by omega)
            have jx4 := fun W => index_bstr W s ((p : Int) + 4) (p + 4) (by omega) (by omega)
            have jx5 := fun W => index_bstr W s ((p : Int) + 5) (p + 5) (by omega) (by omega)
            have c0b := (s.getD p 0).toNat_lt; have c1b := (s.getD (p + 1) 0).toNat_lt; have c2b := (s.getD (p + 2) 0).toNat_lt; have c3b := (s.getD (p + 3) 0).toNat_lt; have c4b := (s.getD (p + 4) 0).toNat_lt; have c5b := (s.getD (p + 5) 0).toNat_lt
            generalize (s.getD p 0).toNat = c0 at jx0 c0b hXd
            generalize (s.getD (p + 1) 0).toNat = c1 at jx1 c1b hXd
            generalize (s.getD (p + 2) 0).toNat = c2 at jx2 c2b hXd
            generalize (s.getD (p + 3) 0).toNat = c3 at jx3 c3b hXd
            generalize (s.getD (p + 4) 0).toNat = c4 at jx4 c4b hXd
            generalize (s.getD (p + 5) 0).toNat = c5 at jx5 c5b hXd
            have hrh : rdHash (s.drop (p + 6)) = ((s.drop (p + 6)).take 32, 0, (s.drop (p + 6)).drop 32) := by rw [rdHash, if_pos (by rw [List.length_drop]; omega)]
            have hHl : ((s.drop (p + 6)).take 32).length = 32 := by simp; omega
            have hrr := fun W (h : IsRr W wr.heap.size s (p + 6)) => RRHash_any W wr.heap.size s (p + 6) h
            rw [hrh] at hrr
            generalize (s.drop (p + 6)).take 32 = HV at hrr hXd hHl
            generalize inoD (s.drop p) = X at hXd hroot hnx
            have hone := inoC_one X
            have hC := inoC_length hroot
            rw [show ((c4 * 256 + c5 : Nat) : Int) = (c4 : Int) * 256 + (c5 : Int) from by omega] at hXd
            have HXD := Lib.hid hXd
            have orv : bits .or .i64 ((c4 : Int) * 256) (c5 : Int) = (c4 : Int) * 256 + (c5 : Int) := or8 c4 c5 (by omega) (by omega) (by omega)
            have m0 : IntKind.i64.wrap (c0 : Int) = c0 := IntWalk.i64_in _ (by omega)
            have m1 : IntKind.i64.wrap (c1 : Int) = c1 := IntWalk.i64_in _ (by omega)
            have m2 : IntKind.i64.wrap (c2 : Int) = c2 := IntWalk.i64_in _ (by omega)
            have m3 : IntKind.i64.wrap (c3 : Int) = c3 := IntWalk.i64_in _ (by omega)
            have m4 : IntKind.i64.wrap (c4 : Int) = c4 := IntWalk.i64_in _ (by omega)
            have m5 : IntKind.i64.wrap (c5 : Int) = c5 := IntWalk.i64_in _ (by omega)
            have ish : IntKind.i64.wrap ((c4 : Int) * 256) = (c4 : Int) * 256 := IntWalk.i64_in _ (by omega)
            have k38 : IntKind.i64.wrap (38 * (j : Int)) = 38 * (j : Int) := IntWalk.i64_in _ (by omega)
            have k2 : IntKind.i64.wrap (2 + 38 * (j : Int)) = (p : Int) := by rw [IntWalk.i64_in _ (by omega)]; omega
            have kp : 2 + 38 * (j : Int) = (p : Int) := by omega
            have k1p : IntKind.i64.wrap ((p : Int) + 1) = (p : Int) + 1 := IntWalk.i64_in _ (by omega)
            have k2p : IntKind.i64.wrap ((p : Int) + 2) = (p : Int) + 2 := IntWalk.i64_in _ (by omega)
            have k3p : IntKind.i64.wrap ((p : Int) + 3) = (p : Int) + 3 := IntWalk.i64_in _ (by omega)
            have k4p : IntKind.i64.wrap ((p : Int) + 4) = (p : Int) + 4 := IntWalk.i64_in _ (by omega)
            have k5p : IntKind.i64.wrap ((p : Int) + 5) = (p : Int) + 5 := IntWalk.i64_in _ (by omega)
            have k6p : IntKind.i64.wrap ((p : Int) + 6) = (p : Int) + 6 := IntWalk.i64_in _ (by omega)
            have e6 : ((p + 6 : Nat) : Int) = (p : Int) + 6 := by omega
            have hRR : IsRr (wr.alloc (.cells #[.string (bstr s), .int .i64 ((p : Int) + 6)] 81)) wr.heap.size s (p + 6) := by rw [← e6]; exact ⟨heap_alloc_new _ _, by omega, by omega⟩
            have hA : Pure wr (wr.alloc (.cells #[.string (bstr s), .int .i64 ((p : Int) + 6)] 81)) := (Turn.refl _ _).alloc _
            have HRR := Lib.hid hRR; have HHR := Lib.hid hrr; have HNX := Lib.hid hnx
            have hbl : ∀ q, (Value.slice ao j c).ownBlock = some q → q < wr.heap.size := fun q hq => by
              rcases HO.out.2 with ⟨e0, _⟩ | ⟨gx, cap, cur, e0, _, hgx, _⟩
              · rw [e0] at hq; simp [Value.ownBlock] at hq
              · rw [e0] at hq
                simp only [Value.ownBlock, Option.some.injEq] at hq
                rw [← hq]; exact (Array.getElem?_eq_some_iff.1 hgx).1
            have hwz := HP.out.size
            have HO := Lib.hid (hA.own HO.out (fun _ _ e => e)); have HP := Lib.hid (HP.out.pure hA)
            have hgr : wr.heap.size < (wr.alloc (.cells #[.string (bstr s), .int .i64 ((p : Int) + 6)] 81)).heap.size := by simp
            clear hRR hrr hnx hXd hA hrh hdd hx38 hp e6
            go_wp2_with fail
            generalize wr.alloc (.cells #[.string (bstr s), .int .i64 ((p : Int) + 6)] 81) = wA at *
            generalize wr.heap.size = gr at *
            refine (HHR.out _ HRR.out).mono ?_
            rintro e w5 ⟨rfl, r5⟩
            have HO := Lib.hid (r5.turn.own HO.out (fun q hq e => by have := hbl q hq; omega)); have HP := Lib.hid (HP.out.trans r5.turn fun q hq e => by omega : Pure w w5)
            have hsz5 := r5.turn.size
            clear r5 HRR HHR
            go_wp2_with (refine wpList_allocZ rfl 39 rfl XZ HZ.out ?_)
            intro g8 w6 e6 c6 t6 s6
            have l8 : w5.heap.size ≤ g8 := by omega
            clear e6 s6
            go_wp2_with (refine wpList_store_blk rfl 39 _ _ rfl g8 _ (u8s HV) _ rfl rfl c6 (size28 hXZ hHl) (info28_l hHl) (u8s_one _) ?_)
            intro w7 c7 t7 _
            have hp7 : Pure w5 w7 := t6.trans t7 fun q hq e => by omega
            have HO := Lib.hid (hp7.own HO.out (fun _ _ e => e)); have HP := Lib.hid (HP.out.pure hp7)
            have R8 := range_of_row c7
            have hsz7 := hp7.size
            clear c6 t6 c7 t7 hp7
            go_wp2_with fail
            refine wp_region_held_drew (S := fun w' => w'.rangeAt g8 0 (u8s HV)) (by kernel_rfl) (show w7.drew.rangeAt g8 0 (u8s HV) from R8) (fun hS => ?_)
            have HS := Lib.hid hS
            have HP := Lib.hid HP.out.drew; have HO := Lib.hid (show w7.drew.ownsRow _ _ _ _ _ _ from HO.out)
            have hsz8 : w7.drew.heap.size = w7.heap.size := rfl
            clear hS R8
            generalize w7.drew = w8 at *
            refine wpAnyH_take (i := 0) (v := ?_) rfl (by kernel_rfl) (by kernel_rfl) (by kernel_rfl) (fun _ _ _ h => h) (Or.inl ⟨by rfl, fun w hSw => ?_⟩) HS.out ?_
            rotate_left
            · first | (go_simp; done) | (go_simp; with_reducible rfl)
            simp only [List.getElem_toArray, List.getElem_cons_zero, Act.put, List.setIfInBounds_toArray, List.set_cons_zero, List.set_cons_succ]
            refine wpAnyH_take (i := 1) (v := ?_) rfl (by kernel_rfl) (by kernel_rfl) (by kernel_rfl) (fun _ _ _ h => h) (Or.inl ⟨by rfl, fun w hSw => ?_⟩) HS.out ?_
            rotate_left
            · first | (go_simp; done) | (go_simp; with_reducible rfl)
            simp only [List.getElem_toArray, List.getElem_cons_succ, List.getElem_cons_zero, Act.put, List.setIfInBounds_toArray, List.set_cons_zero, List.set_cons_succ]
            refine wpAnyH_take (i := 2) (v := ?_) rfl (by kernel_rfl) (by kernel_rfl) (by kernel_rfl) (fun _ _ _ h => h) (Or.inl ⟨by rfl, fun w hSw => ?_⟩) HS.out ?_
            rotate_left
            · first | (go_simp; done) | (go_simp; with_reducible rfl)
            simp only [List.getElem_toArray, List.getElem_cons_succ, List.getElem_cons_zero, Act.put, List.setIfInBounds_toArray, List.set_cons_zero, List.set_cons_succ]
            refine wpAnyH_take (i := 3) (v := ?_) rfl (by kernel_rfl) (by kernel_rfl) (by kernel_rfl) (fun _ _ _ h => h) (Or.inl ⟨by rfl, fun w hSw => ?_⟩) HS.out ?_
            rotate_left
            · first | (go_simp; done) | (go_simp; with_reducible rfl)
            simp only [List.getElem_toArray, List.getElem_cons_succ, List.getElem_cons_zero, Act.put, List.setIfInBounds_toArray, List.set_cons_zero, List.set_cons_succ]
            refine wpAnyH_take (i := 4) (v := ?_) rfl (by kernel_rfl) (by kernel_rfl) (by kernel_rfl) (fun _ _ _ h => h) (Or.inl ⟨by rfl, fun w hSw => ?_⟩) HS.out ?_
            rotate_left
            · first | (go_simp; done) | (go_simp; with_reducible rfl)
            simp only [List.getElem_toArray, List.getElem_cons_succ, List.getElem_cons_zero, Act.put, List.setIfInBounds_toArray, List.set_cons_zero, List.set_cons_succ]
            refine wpAnyH_take (i := 5) (v := ?_) rfl (by kernel_rfl) (by kernel_rfl) (by kernel_rfl) (fun _ _ _ h => h) (Or.inl ⟨by rfl, fun w hSw => ?_⟩) HS.out ?_
            rotate_left
            · first | (go_simp; done) | (go_simp; with_reducible rfl)
            simp only [List.getElem_toArray, List.getElem_cons_succ, List.getElem_cons_zero, Act.put, List.setIfInBounds_toArray, List.set_cons_zero, List.set_cons_succ]
            refine wpAnyH_take (i := 6) (v := ?_) rfl (by kernel_rfl) (by kernel_rfl) (by kernel_rfl) (fun _ _ _ h => h) (Or.inl ⟨by rfl, fun w hSw => ?_⟩) HS.out ?_
            rotate_left
            · first | (go_simp; done) | (go_simp; with_reducible rfl)
            simp only [List.getElem_toArray, List.getElem_cons_succ, List.getElem_cons_zero, Act.put, List.setIfInBounds_toArray, List.set_cons_zero, List.set_cons_succ]
            refine wpAnyH_take (i := 7) (v := ?_) rfl (by kernel_rfl) (by kernel_rfl) (by kernel_rfl) (fun _ _ _ h => h) (Or.inl ⟨by rfl, fun w hSw => ?_⟩) HS.out ?_
            rotate_left
            · first | (go_simp; done) | (go_simp; with_reducible rfl)
            simp only [List.getElem_toArray, List.getElem_cons_succ, List.getElem_cons_zero, Act.put, List.setIfInBounds_toArray, List.set_cons_zero, List.set_cons_succ]
            refine wpAnyH_take (i := 8) (v := ?_) rfl (by kernel_rfl) (by kernel_rfl) (by kernel_rfl) (fun _ _ _ h => h) (Or.inl ⟨by rfl, fun w hSw => ?_⟩) HS.out ?_
            rotate_left
            · first | (go_simp; done) | (go_simp; with_reducible rfl)
            simp only [List.getElem_toArray, List.getElem_cons_succ, List.getElem_cons_zero, Act.put, List.setIfInBounds_toArray, List.set_cons_zero, List.set_cons_succ]
            refine wpAnyH_take (i := 9) (v := ?_) rfl (by kernel_rfl) (by kernel_rfl) (by kernel_rfl) (fun _ _ _ h => h) (Or.inl ⟨by rfl, fun w hSw => ?_⟩) HS.out ?_
            rotate_left
            · first | (go_simp; done) | (go_simp; with_reducible rfl)
            simp only [List.getElem_toArray, List.getElem_cons_succ, List.getElem_cons_zero, Act.put, List.setIfInBounds_toArray, List.set_cons_zero, List.set_cons_succ]
            refine wpAnyH_take (i := 10) (v := ?_) rfl (by kernel_rfl) (by kernel_rfl) (by kernel_rfl) (fun _ _ _ h => h) (Or.inl ⟨by rfl, fun w hSw => ?_⟩) HS.out ?_
            rotate_left
            · first | (go_simp; done) | (go_simp; with_reducible rfl)
            simp only [List.getElem_toArray, List.getElem_cons_succ, List.getElem_cons_zero, Act.put, List.setIfInBounds_toArray, List.set_cons_zero, List.set_cons_succ]
            refine wpAnyH_take (i := 11) (v := ?_) rfl (by kernel_rfl) (by kernel_rfl) (by kernel_rfl) (fun _ _ _ h => h) (Or.inl ⟨by rfl, fun w hSw => ?_⟩) HS.out ?_
            rotate_left
            · first | (go_simp; done) | (go_simp; with_reducible rfl)
            simp only [List.getElem_toArray, List.getElem_cons_succ, List.getElem_cons_zero, Act.put, List.setIfInBounds_toArray, List.set_cons_zero, List.set_cons_succ]
            refine wpAnyH_take (i := 12) (v := ?_) rfl (by kernel_rfl) (by kernel_rfl) (by kernel_rfl) (fun _ _ _ h => h) (Or.inl ⟨by rfl, fun w hSw => ?_⟩) HS.out ?_
            rotate_left
            · first | (go_simp; done) | (go_simp; with_reducible rfl)
            simp only [List.getElem_toArray, List.getElem_cons_succ, List.getElem_cons_zero, Act.put, List.setIfInBounds_toArray, List.set_cons_zero, List.set_cons_succ]
            refine wpAnyH_take (i := 13) (v := ?_) rfl (by kernel_rfl) (by kernel_rfl) (by kernel_rfl) (fun _ _ _ h => h) (Or.inl ⟨by rfl, fun w hSw => ?_⟩) HS.out ?_
            rotate_left
            · first | (go_simp; done) | (go_simp; with_reducible rfl)
            simp only [List.getElem_toArray, List.getElem_cons_succ, List.getElem_cons_zero, Act.put, List.setIfInBounds_toArray, List.set_cons_zero, List.set_cons_succ]
            refine wpAnyH_take (i := 14) (v := ?_) rfl (by kernel_rfl) (by kernel_rfl) (by kernel_rfl) (fun _ _ _ h => h) (Or.inl ⟨by rfl, fun w hSw => ?_⟩) HS.out ?_
            rotate_left
            · first | (go_simp; done) | (go_simp; with_reducible rfl)
            simp only [List.getElem_toArray, List.getElem_cons_succ, List.getElem_cons_zero, Act.put, List.setIfInBounds_toArray, List.set_cons_zero, List.set_cons_succ]
            refine wpAnyH_take (i := 15) (v := ?_) rfl (by kernel_rfl) (by kernel_rfl) (by kernel_rfl) (fun _ _ _ h => h) (Or.inl ⟨by rfl, fun w hSw => ?_⟩) HS.out ?_
            rotate_left
            · first | (go_simp; done) | (go_simp; with_reducible rfl)
            simp only [List.getElem_toArray, List.getElem_cons_succ, List.getElem_cons_zero, Act.put, List.setIfInBounds_toArray, List.set_cons_zero, List.set_cons_succ]
            refine wpAnyH_take (i := 16) (v := ?_) rfl (by kernel_rfl) (by kernel_rfl) (by kernel_rfl) (fun _ _ _ h => h) (Or.inl ⟨by rfl, fun w hSw => ?_⟩) HS.out ?_
            rotate_left
            · first | (go_simp; done) | (go_simp; with_reducible rfl)
            simp only [List.getElem_toArray, List.getElem_cons_succ, List.getElem_cons_zero, Act.put, List.setIfInBounds_toArray, List.set_cons_zero, List.set_cons_succ]
            refine wpAnyH_take (i := 17) (v := ?_) rfl (by kernel_rfl) (by kernel_rfl) (by kernel_rfl) (fun _ _ _ h => h) (Or.inl ⟨by rfl, fun w hSw => ?_⟩) HS.out ?_
            rotate_left
            · first | (go_simp; done) | (go_simp; with_reducible rfl)
            simp only [List.getElem_toArray, List.getElem_cons_succ, List.getElem_cons_zero, Act.put, List.setIfInBounds_toArray, List.set_cons_zero, List.set_cons_succ]
            refine wpAnyH_take (i := 18) (v := ?_) rfl (by kernel_rfl) (by kernel_rfl) (by kernel_rfl) (fun _ _ _ h => h) (Or.inl ⟨by rfl, fun w hSw => ?_⟩) HS.out ?_
            rotate_left
            · first | (go_simp; done) | (go_simp; with_reducible rfl)
            simp only [List.getElem_toArray, List.getElem_cons_succ, List.getElem_cons_zero, Act.put, List.setIfInBounds_toArray, List.set_cons_zero, List.set_cons_succ]
            refine wpAnyH_take (i := 19) (v := ?_) rfl (by kernel_rfl) (by kernel_rfl) (by kernel_rfl) (fun _ _ _ h => h) (Or.inl ⟨by rfl, fun w hSw => ?_⟩) HS.out ?_
            rotate_left
            · first | (go_simp; done) | (go_simp; with_reducible rfl)
            simp only [List.getElem_toArray, List.getElem_cons_succ, List.getElem_cons_zero, Act.put, List.setIfInBounds_toArray, List.set_cons_zero, List.set_cons_succ]
            refine wpAnyH_take (i := 20) (v := ?_) rfl (by kernel_rfl) (by kernel_rfl) (by kernel_rfl) (fun _ _ _ h => h) (Or.inl ⟨by rfl, fun w hSw => ?_⟩) HS.out ?_
            rotate_left
            · first | (go_simp; done) | (go_simp; with_reducible rfl)
            simp only [List.getElem_toArray, List.getElem_cons_succ, List.getElem_cons_zero, Act.put, List.setIfInBounds_toArray, List.set_cons_zero, List.set_cons_succ]
            refine wpAnyH_take (i := 21) (v := ?_) rfl (by kernel_rfl) (by kernel_rfl) (by kernel_rfl) (fun _ _ _ h => h) (Or.inl ⟨by rfl, fun w hSw => ?_⟩) HS.out ?_
            rotate_left
            · first | (go_simp; done) | (go_simp; with_reducible rfl)
            simp only [List.getElem_toArray, List.getElem_cons_succ, List.getElem_cons_zero, Act.put, List.setIfInBounds_toArray, List.set_cons_zero, List.set_cons_succ]
            refine wpAnyH_take (i := 22) (v := ?_) rfl (by kernel_rfl) (by kernel_rfl) (by kernel_rfl) (fun _ _ _ h => h) (Or.inl ⟨by rfl, fun w hSw => ?_⟩) HS.out ?_
            rotate_left
            · first | (go_simp; done) | (go_simp; with_reducible rfl)
            simp only [List.getElem_toArray, List.getElem_cons_succ, List.getElem_cons_zero, Act.put, List.setIfInBounds_toArray, List.set_cons_zero, List.set_cons_succ]
            refine wpAnyH_take (i := 23) (v := ?_) rfl (by kernel_rfl) (by kernel_rfl) (by kernel_rfl) (fun _ _ _ h => h) (Or.inl ⟨by rfl, fun w hSw => ?_⟩) HS.out ?_
            rotate_left
            · first | (go_simp; done) | (go_simp; with_reducible rfl)
            simp only [List.getElem_toArray, List.getElem_cons_succ, List.getElem_cons_zero, Act.put, List.setIfInBounds_toArray, List.set_cons_zero, List.set_cons_succ]
            refine wpAnyH_take (i := 24) (v := ?_) rfl (by kernel_rfl) (by kernel_rfl) (by kernel_rfl) (fun _ _ _ h => h) (Or.inl ⟨by rfl, fun w hSw => ?_⟩) HS.out ?_
            rotate_left
            · first | (go_simp; done) | (go_simp; with_reducible rfl)
            simp only [List.getElem_toArray, List.getElem_cons_succ, List.getElem_cons_zero, Act.put, List.setIfInBounds_toArray, List.set_cons_zero, List.set_cons_succ]
            refine wpAnyH_take (i := 25) (v := ?_) rfl (by kernel_rfl) (by kernel_rfl) (by kernel_rfl) (fun _ _ _ h => h) (Or.inl ⟨by rfl, fun w hSw => ?_⟩) HS.out ?_
            rotate_left
            · first | (go_simp; done) | (go_simp; with_reducible rfl)
            simp only [List.getElem_toArray, List.getElem_cons_succ, List.getElem_cons_zero, Act.put, List.setIfInBounds_toArray, List.set_cons_zero, List.set_cons_succ]
            refine wpAnyH_take (i := 26) (v := ?_) rfl (by kernel_rfl) (by kernel_rfl) (by kernel_rfl) (fun _ _ _ h => h) (Or.inl ⟨by rfl, fun w hSw => ?_⟩) HS.out ?_
            rotate_left
            · first | (go_simp; done) | (go_simp; with_reducible rfl)
            simp only [List.getElem_toArray, List.getElem_cons_succ, List.getElem_cons_zero, Act.put, List.setIfInBounds_toArray, List.set_cons_zero, List.set_cons_succ]
            refine wpAnyH_take (i := 27) (v := ?_) rfl (by kernel_rfl) (by kernel_rfl) (by kernel_rfl) (fun _ _ _ h => h) (Or.inl ⟨by rfl, fun w hSw => ?_⟩) HS.out ?_
            rotate_left
            · first | (go_simp; done) | (go_simp; with_reducible rfl)
            simp only [List.getElem_toArray, List.getElem_cons_succ, List.getElem_cons_zero, Act.put, List.setIfInBounds_toArray, List.set_cons_zero, List.set_cons_succ]
            refine wpAnyH_take (i := 28) (v := ?_) rfl (by kernel_rfl) (by kernel_rfl) (by kernel_rfl) (fun _ _ _ h => h) (Or.inl ⟨by rfl, fun w hSw => ?_⟩) HS.out ?_
            rotate_left
            · first | (go_simp; done) | (go_simp; with_reducible rfl)
            simp only [List.getElem_toArray, List.getElem_cons_succ, List.getElem_cons_zero, Act.put, List.setIfInBounds_toArray, List.set_cons_zero, List.set_cons_succ]
            refine wpAnyH_take (i := 29) (v := ?_) rfl (by kernel_rfl) (by kernel_rfl) (by kernel_rfl) (fun _ _ _ h => h) (Or.inl ⟨by rfl, fun w hSw => ?_⟩) HS.out ?_
            rotate_left
            · first | (go_simp; done) | (go_simp; with_reducible rfl)
            simp only [List.getElem_toArray, List.getElem_cons_succ, List.getElem_cons_zero, Act.put, List.setIfInBounds_toArray, List.set_cons_zero, List.set_cons_succ]
            refine wpAnyH_take (i := 30) (v := ?_) rfl (by kernel_rfl) (by kernel_rfl) (by kernel_rfl) (fun _ _ _ h => h) (Or.inl ⟨by rfl, fun w hSw => ?_⟩) HS.out ?_
            rotate_left
            · first | (go_simp; done) | (go_simp; with_reducible rfl)
            simp only [List.getElem_toArray, List.getElem_cons_succ, List.getElem_cons_zero, Act.put, List.setIfInBounds_toArray, List.set_cons_zero, List.set_cons_succ]
            refine wpAnyH_take (i := 31) (v := ?_) rfl (by kernel_rfl) (by kernel_rfl) (by kernel_rfl) (fun _ _ _ h => h) (Or.inl ⟨by rfl, fun w hSw => ?_⟩) HS.out ?_
            rotate_left
            · first | (go_simp; done) | (go_simp; with_reducible rfl)
            simp only [List.getElem_toArray, List.getElem_cons_succ, List.getElem_cons_zero, Act.put, List.setIfInBounds_toArray, List.set_cons_zero, List.set_cons_succ]
            refine wpAnyH_take (i := 32) (v := hv HV) rfl (by kernel_rfl) (by kernel_rfl) (by kernel_rfl) (fun _ _ _ h => h) (yieldsIf_load_mid (by rfl) 39 _ rfl g8 0 rfl (u8s HV) _ (fun w h => h) Try.underlying39 rfl (info28_l hHl)) HS.out ?_
            simp only [List.getElem_toArray, List.getElem_cons_succ, List.getElem_cons_zero, Act.put, List.setIfInBounds_toArray, List.set_cons_zero, List.set_cons_succ]
            refine wpAnyH_step (i := 33) (by kernel_rfl) rfl fun K hK => ?_
            refine step_buildN rfl _ rfl ⟨(c0 : Int), (c1 : Int), (c2 : Int), (c3 : Int), (c4 : Int) * 256 + (c5 : Int), HV⟩ hHl (by simp [Act.eval]) ?_
            rw [← HXD.out]
            refine hK.out _ _ HS.out ?_
            clear hK K
            try simp only [List.getElem_toArray, List.getElem_cons_succ, List.getElem_cons_zero, Act.put, List.setIfInBounds_toArray, List.set_cons_zero, List.set_cons_succ]
            refine wpAnyH_step (i := 34) (by kernel_rfl) rfl fun K hK => ?_
            refine step_rowN rfl _ rfl (inoC X) hC rfl ?_
            intro g9 w9 e9 c9 t9 s9
            have HO := Lib.hid (t9.own HO.out (fun _ _ e => e)); have HP := Lib.hid (HP.out.pure t9); have HS := Lib.hid (t9.range HS.out (fun e => e)); have D9 := Lib.hid c9
            refine hK.out _ _ HS.out ?_
            clear hK K t9 c9
            try simp only [List.getElem_toArray, List.getElem_cons_succ, List.getElem_cons_zero, Act.put, List.setIfInBounds_toArray, List.set_cons_zero, List.set_cons_succ]
            refine wpAnyH_step (i := 35) (by kernel_rfl) rfl fun K hK => ?_
            refine step_appN rfl _ _ rfl _ j _ rfl HO.out g9 (inoC X) hC hone rfl D9.out (by omega) ?_
            intro ao' c' wB oB tB bB
            rw [HNX.out] at oB
            have hwB := HP.out.size
            have HLO9 : Hid (∀ q, (Value.slice ao' (j + 1) c').ownBlock = some q → w.heap.size ≤ q) := Lib.hid fun q hq => by
              rcases bB with e | e
              · exact HLO.out q (e ▸ hq)
              · have := Option.some.inj (e.symm.trans hq)
                omega
            have HPB := Lib.hid (HP.out.trans tB fun q hq e => by have := HLO.out q e; omega : Pure w wB)
            have hn8 : (Value.slice ao j c).ownBlock ≠ some g8 := fun e => by have := hbl g8 e; omega
            have HSB := Lib.hid (tB.range HS.out hn8)
            have HOB := Lib.hid oB
            refine hK.out _ _ HSB.out ?_
            clear hK K tB bB oB hn8
            try simp only [List.getElem_toArray, List.getElem_cons_succ, List.getElem_cons_zero, Act.put, List.setIfInBounds_toArray, List.set_cons_zero, List.set_cons_succ]
            refine wpAnyH_take (i := 36) (v := ?_) rfl (by kernel_rfl) (by kernel_rfl) (by kernel_rfl) (fun _ _ _ h => h) (Or.inl ⟨by rfl, fun w hSw => ?_⟩) HSB.out ?_
            rotate_left
            · first | (go_simp; done) | (go_simp; with_reducible rfl)
            simp only [List.getElem_toArray, List.getElem_cons_succ, List.getElem_cons_zero, Act.put, List.setIfInBounds_toArray, List.set_cons_zero, List.set_cons_succ]
            refine wpAnyH_done (by kernel_rfl) ?_ _
            go_wp2
            exact ⟨⟨j + 1, ao', c', by omega, rfl, by first | rfl | trivial | go_num, HOB, HLO9, HPB⟩, by simp [intOf]; omega⟩
          · obtain rfl : j = n := by omega
            have q1 : ¬ ((j : Int) < j) := by omega
            have hsl2 := HSL.out.2
            have hrt := tabD_root j (s.drop 2) (by rw [List.length_drop]; omega)
            have hroot : ∀ x ∈ tabD (s.drop 2) j, (inoC x).length = 37 := fun x hx => inoC_length (hrt x hx)
            have hrow := Rows.own (by decide) HO.out hroot
            have hm := fun W h => ItabMay_any W (.slice ao j c) (tabD (s.drop 2) j) h hrt (by rw [tabD_length]; omega)
            have HROW := Lib.hid hrow
            generalize tabD (s.drop 2) j = XS at *
            have HM := Lib.hid hm
            clear hm hrow hroot hrt hsl2 HO HLO
            cases hb : tabB XS with
            | true =>
              rw [hb] at HM HG
              rw [if_pos rfl] at HG
              clear hb
              go_wp2_with fail
              refine (HM.out _ HROW.out).mono ?_
              rintro e w6 ⟨rfl, t6⟩
              have HP := Lib.hid (HP.out.pure t6); have HROW := Lib.hid (HROW.out.pure t6)
              clear t6
              go_wp2
              go_ret2
              exact ⟨.slice ao j c, by first | (rw [HG.out]; done) | (rw [HG.out]; rfl), by rw [HG.out]; exact HROW.out, HP.out⟩
            | false =>
              rw [hb] at HM HG
              rw [if_neg (by decide)] at HG
              clear hb
              go_wp2_with fail
              refine (HM.out _ HROW.out).mono ?_
              rintro e w6 ⟨rfl, t6⟩
              have HP := Lib.hid (HP.out.pure t6)
              clear t6
              go_wp2
              go_ret2
              exact ⟨.slice none 0 0, by first | (rw [HG.out]; done) | (rw [HG.out]; rfl), by rw [HG.out]; exact rows_nil _ _ _, HP.out⟩
      · have ql : ((s.length : Int) != 2 + 38 * (n : Int)) = true := by simp; omega
        have HGG : Hid (getT s = ([], 1400)) := Lib.hid (by rw [hG, if_pos (by simp [hl])])
        clear hG hl hA
        go_enter Try.func13, Try.ntmps13
        go_wp2
        go_ret2
        exact ⟨.slice none 0 0, by first | (rw [HGG.out]; done) | (rw [HGG.out]; rfl), by rw [HGG.out]; exact rows_nil _ _ _, Turn.refl _ _⟩
    · have qa : ((A0.toNat : Int) != 84) = true := by
        refine bne_iff_ne.2 fun h => hA (UInt8.toNat_inj.1 ?_)
        have : A0.toNat = 84 := by omega
        rw [this]; rfl
      have HGG : Hid (getT s = ([], 1400)) := Lib.hid (by rw [hG, if_pos (by simp [hA])])
      clear hG hA
      go_enter Try.func13, Try.ntmps13
      go_wp2
      go_ret2
      exact ⟨.slice none 0 0, by first | (rw [HGG.out]; done) | (rw [HGG.out]; rfl), by rw [HGG.out]; exact rows_nil _ _ _, Turn.refl _ _⟩
end Go.Proofs.Ythfekopimmgdmaa
