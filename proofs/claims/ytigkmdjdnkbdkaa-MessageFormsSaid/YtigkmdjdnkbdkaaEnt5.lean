/- Chapter 19: rows of numbers, of hashes are read. -/
import Derived.Test.YtigkmdjdnkbdkaaEnt4
import Derived.Test.YtigkmdjdnkbdkaaVecI
namespace Go.Proofs.Ytigkmdjdnkbdkaa
open Go.RowKit
set_option maxRecDepth 100000

/-- A reader's cell. -/
def RdCell (w : World) (K g : Nat) : Prop := w.heap[K]? = some (.cells #[.pointer (some ⟨g, 0, none⟩)] 59 (0, 0))
theorem RdCell.at {w : World} {K g : Nat} (h : RdCell w K g) : w.cell? ⟨K, 0, none⟩ = some (.pointer (some ⟨g, 0, none⟩)) := by rw [cell_of_row w K 0 _ _ _ h]; rfl
theorem Ints.turn {S : Nat → Prop} {w w' : World} {v : Value} {l : List Int} (h : Ints w v l) (t : Turn S w w') (hS : ∀ k, v.ownBlock = some k → ¬ S k) : Ints w' v l := by
  obtain ⟨ao, cap, rfl, h2, h3, h4, h5⟩ := h
  refine ⟨ao, cap, rfl, h2, h3, h4, fun i x hx => ?_⟩
  obtain ⟨a1, a2, b, o, rfl, a4⟩ := h5 i x hx
  exact ⟨a1, a2, b, o, rfl, t.cell a4 (hS b rfl)⟩
theorem Ints.lives {w : World} {v : Value} {l : List Int} (h : Ints w v l) (hl : l ≠ []) {q : Nat} (hq : v.ownBlock = some q) : q < w.heap.size := by
  obtain ⟨ao, cap, rfl, h2, h3, h4, h5⟩ := h
  obtain ⟨x, t, rfl⟩ : ∃ x t, l = x :: t := by cases l with | nil => exact absurd rfl hl | cons x t => exact ⟨x, t, rfl⟩
  obtain ⟨_, _, b, o, rfl, a4⟩ := h5 0 x rfl
  simp only [Value.ownBlock, Option.some.injEq] at hq
  subst hq
  exact World.block_lt_of_cell? w _ a4
theorem Ints.turn2 {S : Nat → Prop} {w w' : World} {v : Value} {l : List Int} (h : Ints w v l) (t : Turn S w w') (hS : l ≠ [] → ∀ k, v.ownBlock = some k → ¬ S k) : Ints w' v l := by
  obtain ⟨ao, cap, rfl, h2, h3, h4, h5⟩ := h
  refine ⟨ao, cap, rfl, h2, h3, h4, fun i x hx => ?_⟩
  obtain ⟨a1, a2, b, o, rfl, a4⟩ := h5 i x hx
  exact ⟨a1, a2, b, o, rfl, t.cell a4 (hS (fun e => by rw [e] at hx; simp at hx) b rfl)⟩
/-- A row that was laid behind w0. -/
def Newer (w0 : World) (v : Value) : Prop := ∀ q, v.ownBlock = some q → w0.heap.size ≤ q
theorem newer_nil (w0 : World) : Newer w0 (.slice none 0 0) := fun q h => by simp [Value.ownBlock] at h
theorem Newer.mono {w0 w1 : World} {v : Value} (h : Newer w1 v) (t : w0.heap.size ≤ w1.heap.size) : Newer w0 v := fun q hq => Nat.le_trans t (h q hq)
theorem rdNum_two (s : List UInt8) : rdNum s 2 = if 2 ≤ s.length then ((numB (s.take 2) : Int), 0, s.drop 2) else (0, 300, s) := rfl
theorem ints2_snoc (s : List UInt8) (n : Nat) : ints2 s (n + 1) = ints2 s n ++ [(numB ((s.drop (2 * n)).take 2) : Int)] := by
  induction n generalizing s with
  | zero => simp [ints2]
  | succ n ih =>
    rw [ints2, ih (s.drop 2), List.drop_drop]
    simp only [ints2, List.cons_append]
    rw [show 2 + 2 * n = 2 * (n + 1) from by omega]
theorem hashs32_snoc (s : List UInt8) (n : Nat) : hashs32 s (n + 1) = hashs32 s n ++ [(s.drop (32 * n)).take 32] := by
  induction n generalizing s with
  | zero => simp [hashs32]
  | succ n ih =>
    rw [hashs32, ih (s.drop 32), List.drop_drop]
    simp only [hashs32, List.cons_append]
    rw [show 32 + 32 * n = 32 * (n + 1) from by omega]
theorem ints2_in (k : Nat) (s : List UInt8) : In64 (ints2 s k) := by
  intro i x hx
  induction k generalizing s i with
  | zero => simp [ints2] at hx
  | succ k ih =>
    cases i with
    | zero =>
      simp only [ints2, List.getElem?_cons_zero, Option.some.injEq] at hx
      have h1 := numB_lt (s.take 2)
      have h2 : (s.take 2).length ≤ 2 := by rw [List.length_take]; omega
      have h3 : 256 ^ (s.take 2).length ≤ 256 ^ 2 := Nat.pow_le_pow_right (by omega) h2
      omega
    | succ i => exact ih (s.drop 2) i (by simpa [ints2] using hx)

set_option maxHeartbeats 2000000 in
theorem eget1_any (w : World) (K g : Nat) (s : List UInt8) (hK : RdCell w K g) (h : IsRd 100 w g s) :
    Calls Try.prog 53 #[.pointer (some ⟨K, 0, none⟩)] w fun e w' => e = .returned (.tuple #[.int .i64 (rdNum s 2).1, .int .i64 (rdNum s 2).2.1]) ∧ Read 100 w w' g (rdNum s 2).2.2 := by
  have k1 := hK.at
  have HR := Lib.hid h
  clear hK h
  go_enter Try.func53, Try.ntmps53
  go_wp2_with fail
  refine (RNum_any _ g s 2 HR.out).mono ?_
  rintro e w1 ⟨rfl, r1⟩
  have HR := Lib.hid r1
  clear r1 k1
  go_wp2
  go_ret2
  exact ⟨rfl, HR.out⟩

set_option maxHeartbeats 4000000 in
theorem manyInt_any (w : World) (n K g : Nat) (s : List UInt8) (hn : n ≤ 255) (hK : RdCell w K g) (hne : K ≠ g) (h : IsRd 100 w g s) :
    Calls Try.prog 52 #[.int .i64 (n : Int), .func (.func 53) #[] #[.pointer (some ⟨K, 0, none⟩)]] w fun e w' => ∃ r err l rest, e = .returned (.tuple #[r, .int .i64 err]) ∧
      Ints w' r l ∧ Newer w r ∧ (2 * n ≤ s.length → l = ints2 s n ∧ rest = s.drop (2 * n)) ∧ Read 100 w w' g rest ∧ RdCell w' K g := by
  have hlt := h.lt
  have hKlt : K < w.heap.size := (Array.getElem?_eq_some_iff.1 hK).1
  have HRD := Lib.hid h; have HK := Lib.hid hK
  clear h hK
  obtain ⟨iN, hiN, hzN, hszN, hbyN⟩ := info_parts Try.infoInt
  have HIN := Lib.hid hiN
  clear hiN
  go_enter Try.func52, Try.ntmps52
  go_wp2
  go_loopw [6, 10] (fun v i wr => ∃ (j : Nat) (ao : Option Addr) (c : Nat), j ≤ n ∧ 2 * j ≤ s.length ∧ v = .slice ao j c ∧ i = .int .i64 (j : Int) ∧ Hid (wr.ownsRow 0 3 1 (.slice ao j c) j (ints (ints2 s j))) ∧ Hid (Newer w (.slice ao j c)) ∧ Hid (Read 100 w wr g (s.drop (2 * j))) ∧ Hid (RdCell wr K g)) (fun _ i _ => n - (intOf i).toNat)
  case atStart => exact ⟨0, none, 0, by omega, by omega, rfl, rfl, Lib.hid (World.ownsRow_nil _ _ _ _), Lib.hid (newer_nil _), Lib.hid (by rw [Nat.mul_zero, List.drop_zero]; exact ⟨HRD.out, Turn.refl _ _⟩), HK⟩
  case round =>
    obtain ⟨j, ao, c, hj, hjs, rfl, rfl, HO, HLO, HR, HK⟩ := hrel
    by_cases hlt2 : j < n
    · have q1 : (j : Int) < n := by omega
      have i3 : IntKind.i64.wrap ((j : Int) + 1) = ((j + 1 : Nat) : Int) := by rw [IntWalk.i64_in _ (by omega)]; omega
      go_wp2_with fail
      refine (eget1_any _ K g _ HK.out HR.out.rd).mono ?_
      rintro e w5 ⟨rfl, r5⟩
      have HO := Lib.hid (r5.turn.own HO.out (fun q hq e => by have := HLO.out q hq; omega)); have HK : Hid (RdCell w5 K g) := Lib.hid (r5.turn.obj HK.out hne); have HR := Lib.hid (HR.out.trans r5)
      clear r5
      by_cases h2 : 2 ≤ (s.drop (2 * j)).length
      · have er : rdNum (s.drop (2 * j)) 2 = ((numB ((s.drop (2 * j)).take 2) : Int), 0, (s.drop (2 * j)).drop 2) := by rw [rdNum_two, if_pos h2]
        have hdr : (s.drop (2 * j)).drop 2 = s.drop (2 * (j + 1)) := by rw [List.drop_drop]; congr 1
        have hjs2 : 2 * (j + 1) ≤ s.length := by rw [List.length_drop] at h2; omega
        have hnx := ints2_snoc s j
        rw [er] at HR ⊢
        rw [hdr] at HR
        generalize (numB ((s.drop (2 * j)).take 2) : Int) = x at *
        have hnx2 : ints (ints2 s j) ++ [.int .i64 x] = ints (ints2 s (j + 1)) := by rw [hnx, ints_app]; rfl
        have HNX := Lib.hid hnx2
        clear er hdr h2 hnx hnx2
        have hA : Pure w5 (w5.alloc (.cells #[.int .i64 x] 3)) := (Turn.refl _ _).alloc _
        have hs8 : Src Try.prog 1 43 (.slice (some ⟨w5.heap.size, 0, none⟩) 1 1) 1 [.int .i64 x] (w5.alloc (.cells #[.int .i64 x] 3)) :=
          Src.ofSlice _ Try.underlying43 _ _ _ _ rfl (fun q u hu => by rw [Addr.add_mid]; exact range_of_row (l := [.int .i64 x]) (heap_alloc_new w5 _) q u hu) (fun v hv => by rcases List.mem_singleton.1 hv with rfl; rfl)
        have HO8 := Lib.hid (hA.own HO.out (fun _ _ e => e)); have HK8 : Hid (RdCell (w5.alloc (.cells #[.int .i64 x] 3)) K g) := Lib.hid (hA.obj HK.out (fun e => e)); have HR8 : Hid (Read 100 w (w5.alloc (.cells #[.int .i64 x] 3)) g (s.drop (2 * (j + 1)))) := Lib.hid ⟨HR.out.rd.turn hA (fun e => e), HR.out.turn.pure hA⟩; have HS8 := Lib.hid hs8
        have hwz := HR.out.turn.size
        clear hA hs8 HO HK HR
        go_wp2_with (at_builtin; refine wpList_append_turn _ rfl _ _ 43 43 3 rfl iN _ 1 8 Try.underlying43 HIN.out hzN hszN hbyN rfl _ _ _ rfl HO8.out _ rfl 1 _ HS8.out (by omega) (by omega) ?_)
        intro ao9 c9 w9 o9 t9 b9
        rw [HNX.out] at o9
        have HLO9 : Hid (Newer w (.slice ao9 (j + 1) c9)) := Lib.hid fun q hq => by
          rcases b9.out with e | e
          · exact HLO.out q (e ▸ hq)
          · have := Option.some.inj (e.symm.trans hq)
            have hsz : (w5.alloc (.cells #[.int .i64 x] 3)).heap.size = w5.heap.size + 1 := by simp
            omega
        have HR9 : Hid (Read 100 w w9 g (s.drop (2 * (j + 1)))) := Lib.hid ⟨HR8.out.rd.turn t9 (fun e => by have := HLO.out g e; omega), HR8.out.turn.trans t9 fun q hq e => by have := HLO.out q e; omega⟩
        have HK9 : Hid (RdCell w9 K g) := Lib.hid (t9.obj HK8.out (fun e => by have := HLO.out K e; omega))
        have HO9 := Lib.hid o9
        clear o9 t9 b9 HO8 HK8 HR8 HS8
        go_wp2
        exact ⟨⟨j + 1, ao9, c9, by omega, hjs2, rfl, by first | rfl | trivial | go_num, HO9, HLO9, HR9, HK9⟩, by simp [intOf]; omega⟩
      · have er : rdNum (s.drop (2 * j)) 2 = (0, 300, s.drop (2 * j)) := by rw [rdNum_two, if_neg h2]
        have hbad : ¬ 2 * n ≤ s.length := by rw [List.length_drop] at h2; omega
        rw [er] at HR ⊢
        have HBAD := Lib.hid hbad
        clear er h2 HO HLO hbad
        go_wp2
        go_ret2
        first | exact ⟨_, _, [], _, rfl, Ints.nil _, newer_nil _, fun h => absurd h HBAD.out, HR.out, HK.out⟩ | exact ⟨_, ⟨_, rfl⟩, [], Ints.nil _, newer_nil _, _, fun h => absurd h HBAD.out, HR.out, HK.out⟩
    · obtain rfl : j = n := by omega
      have q1 : ¬ ((j : Int) < j) := by omega
      have HROW := Lib.hid (ints_own HO.out (ints2_in j s) (by rw [ints2_length]; omega))
      clear hjs
      go_wp2
      go_ret2
      exact ⟨_, ⟨_, rfl⟩, ints2 s j, HROW.out, HLO.out, _, fun _ => ⟨rfl, rfl⟩, HR.out, HK.out⟩

theorem parts28 : ∃ i z, Hid (Try.prog.info? 45 = some i) ∧ i.zero = some z ∧ i.size = 32 ∧ i.bytes = 32 ∧ z.cells.size = 32 := by
  have h : (Try.prog.info? 45).map (fun i => (i.zero, i.size, i.bytes)) = some (some (Value.agg (u8s (List.replicate 32 0)).toArray), 32, 32) := by kernel_rfl
  cases hi : Try.prog.info? 45 with
  | none => rw [hi] at h; simp at h
  | some i =>
    rw [hi] at h
    simp only [Option.map_some, Option.some.injEq, Prod.mk.injEq] at h
    exact ⟨i, _, Lib.hid rfl, h.1, h.2.1, h.2.2, by simp [Value.cells, u8s_length]⟩
theorem rowOf_snoc (l : List (List UInt8)) (x : List UInt8) : rowOf u8s l ++ u8s x = rowOf u8s (l ++ [x]) := by rw [rowOf_app]; simp [rowOf]

set_option maxHeartbeats 4000000 in
theorem manyHash_any (w : World) (n g : Nat) (s : List UInt8) (hn : n ≤ 255) (h : IsRd 100 w g s) :
    Calls Try.prog 54 #[.int .i64 (n : Int), .func (.func 28) #[.pointer (some ⟨g, 0, none⟩)] #[]] w fun e w' => ∃ r err l rest, e = .returned (.tuple #[r, .int .i64 err]) ∧
      Rows u8s 32 w' r l ∧ Newer w r ∧ l.length ≤ 255 ∧ (32 * n ≤ s.length → l = hashs32 s n ∧ rest = s.drop (32 * n)) ∧ Read 100 w w' g rest := by
  have hlt := h.lt
  have HRD := Lib.hid h
  clear h
  obtain ⟨Z, hZl, HZ⟩ := ex28
  obtain ⟨iN, zN, HIN, hzN, hszN, hbyN, hzsN⟩ := parts28
  go_enter Try.func54, Try.ntmps54
  go_wp2
  go_loopw [6, 10] (fun v i wr => ∃ (j : Nat) (ao : Option Addr) (c : Nat), j ≤ n ∧ 32 * j ≤ s.length ∧ v = .slice ao j c ∧ i = .int .i64 (j : Int) ∧ Hid (wr.ownsRow 0 45 32 (.slice ao j c) j (rowOf u8s (hashs32 s j))) ∧ Hid (Newer w (.slice ao j c)) ∧ Hid (Read 100 w wr g (s.drop (32 * j)))) (fun _ i _ => n - (intOf i).toNat)
  case atStart => exact ⟨0, none, 0, by omega, by omega, rfl, rfl, Lib.hid (World.ownsRow_nil _ _ _ _), Lib.hid (newer_nil _), Lib.hid (by rw [Nat.mul_zero, List.drop_zero]; exact ⟨HRD.out, Turn.refl _ _⟩)⟩
  case round =>
    obtain ⟨j, ao, c, hj, hjs, rfl, rfl, HO, HLO, HR⟩ := hrel
    by_cases hlt2 : j < n
    · have q1 : (j : Int) < n := by omega
      have i3 : IntKind.i64.wrap ((j : Int) + 1) = ((j + 1 : Nat) : Int) := by rw [IntWalk.i64_in _ (by omega)]; omega
      go_wp2_with fail
      refine (RHash_any _ g _ HR.out.rd).mono ?_
      rintro e w5 ⟨rfl, r5⟩
      have HO := Lib.hid (r5.turn.own HO.out (fun q hq e => by have := HLO.out q hq; omega)); have HR := Lib.hid (HR.out.trans r5)
      clear r5
      obtain ⟨x, hx⟩ : ∃ x, x = (rdHash (s.drop (32 * j))).1 := ⟨_, rfl⟩
      have hxl : x.length = 32 := by
        rw [hx, rdHash]
        split
        · simp only [List.length_take]; omega
        · simp
      rw [← hx]
      have HX := Lib.hid hx
      clear hx
      go_wp2_with (refine wpList_allocZ rfl 45 rfl Z HZ.out ?_)
      intro g7 w6 e6 c6 t6 s6
      have l7 : w5.heap.size ≤ g7 := by omega
      clear e6 s6
      go_wp2_with (refine wpList_store_blk rfl 45 _ _ rfl g7 _ (u8s x) _ rfl rfl c6 (size28 hZl hxl) (info28_l hxl) (u8s_one _) ?_)
      intro w7 c7 t7 _
      have hp7 : Pure w5 w7 := t6.trans t7 fun q hq e => by omega
      have HO := Lib.hid (hp7.own HO.out (fun _ _ e => e)); have HR : Hid (Read 100 w w7 g (rdHash (s.drop (32 * j))).2.2) := Lib.hid ⟨HR.out.rd.turn hp7 (fun e => e), HR.out.turn.pure hp7⟩
      have R7 := Lib.hid (range_of_row c7)
      clear c6 t6 c7 t7 hp7
      by_cases h2 : 32 ≤ (s.drop (32 * j)).length
      · have er : rdHash (s.drop (32 * j)) = ((s.drop (32 * j)).take 32, 0, (s.drop (32 * j)).drop 32) := by rw [rdHash, if_pos h2]
        have hdr : (s.drop (32 * j)).drop 32 = s.drop (32 * (j + 1)) := by rw [List.drop_drop]; congr 1
        have hjs2 : 32 * (j + 1) ≤ s.length := by rw [List.length_drop] at h2; omega
        have hnx := hashs32_snoc s j
        have HX := Lib.hid (HX.out.trans (by rw [er]))
        rw [er] at HR ⊢
        rw [hdr] at HR
        rw [show (s.drop (32 * j)).take 32 = x from HX.out.symm] at hnx
        have hnx2 : rowOf u8s (hashs32 s j) ++ u8s x = rowOf u8s (hashs32 s (j + 1)) := by rw [hnx, rowOf_snoc]
        have HNX := Lib.hid hnx2
        clear er hdr h2 hnx hnx2
        have hA : Pure w7 (w7.alloc (.cells (u8s x).toArray 45)) := (Turn.refl _ _).alloc _
        have hs8 : Src Try.prog 32 23 (.slice (some ⟨w7.heap.size, 0, none⟩) 1 1) 1 (u8s x) (w7.alloc (.cells (u8s x).toArray 45)) :=
          Src.ofSlice _ Try.underlying23 _ _ _ _ (by rw [u8s_length, hxl]) (fun q u hu => by rw [Addr.add_mid]; exact range_of_row (heap_alloc_new w7 _) q u hu) (u8s_one _)
        have HO8 := Lib.hid (hA.own HO.out (fun _ _ e => e)); have HR8 : Hid (Read 100 w (w7.alloc (.cells (u8s x).toArray 45)) g (s.drop (32 * (j + 1)))) := Lib.hid ⟨HR.out.rd.turn hA (fun e => e), HR.out.turn.pure hA⟩; have HS8 := Lib.hid hs8
        have hwz := HR.out.turn.size
        clear hA hs8 HO HR
        go_wp2_with (first | (refine wpList_load_mid rfl 45 _ rfl g7 0 rfl (u8s x) _ R7.out Try.underlying45 rfl (info28_l hxl) ?_) | (refine wpList_buildSlice_one rfl 23 45 _ rfl iN _ 32 (u8s x) Try.underlying23 HIN.out hzN hszN (by decide) (by decide) rfl (by rw [u8s_length, hxl]) ?_) | (at_builtin; refine wpList_append_turn _ rfl _ _ 23 23 45 rfl iN _ 32 32 Try.underlying23 HIN.out hzN hszN hbyN hzsN _ _ _ rfl HO8.out _ rfl 1 _ HS8.out (by omega) (by omega) ?_))
        intro ao9 c9 w9 o9 t9 b9
        rw [HNX.out] at o9
        have HLO9 : Hid (Newer w (.slice ao9 (j + 1) c9)) := Lib.hid fun q hq => by
          rcases b9.out with e | e
          · exact HLO.out q (e ▸ hq)
          · have := Option.some.inj (e.symm.trans hq)
            have hsz : (w7.alloc (.cells (u8s x).toArray 45)).heap.size = w7.heap.size + 1 := by simp
            omega
        have HR9 : Hid (Read 100 w w9 g (s.drop (32 * (j + 1)))) := Lib.hid ⟨HR8.out.rd.turn t9 (fun e => by have := HLO.out g e; omega), HR8.out.turn.trans t9 fun q hq e => by have := HLO.out q e; omega⟩
        have HO9 := Lib.hid o9
        clear o9 t9 b9 HO8 HR8 HS8
        go_wp2
        exact ⟨⟨j + 1, ao9, c9, by omega, hjs2, rfl, by first | rfl | trivial | go_num, HO9, HLO9, HR9⟩, by simp [intOf]; omega⟩
      · obtain ⟨zz, er⟩ : ∃ zz, rdHash (s.drop (32 * j)) = (zz, 300, s.drop (32 * j)) := ⟨_, by rw [rdHash, if_neg h2]⟩
        have hbad : ¬ 32 * n ≤ s.length := by rw [List.length_drop] at h2; omega
        rw [er] at HR ⊢
        have HBAD := Lib.hid hbad
        clear er h2 HO HLO hbad
        go_wp2
        go_ret2
        first | exact ⟨_, _, [], _, rfl, rows_nil _ _ _, newer_nil _, by decide, fun h => absurd h HBAD.out, HR.out⟩ | exact ⟨_, ⟨_, rfl⟩, [], rows_nil _ _ _, newer_nil _, by decide, _, fun h => absurd h HBAD.out, HR.out⟩
    · obtain rfl : j = n := by omega
      have q1 : ¬ ((j : Int) < j) := by omega
      have HROW := Lib.hid (Rows.own (by decide) HO.out (fun x hx => by rw [u8s_length]; exact hashs32_fit j s hjs x hx))
      clear hjs
      go_wp2
      go_ret2
      exact ⟨_, ⟨_, rfl⟩, hashs32 s j, HROW.out, HLO.out, by rw [hashs32_length]; exact hn, _, fun _ => ⟨rfl, rfl⟩, HR.out⟩
end Go.Proofs.Ytigkmdjdnkbdkaa
