/- Package mlog: trees that grow leaf by leaf. -/
import Derived.Test.YtjbigghjbcjelaaRoot
namespace Go.Proofs.Ytjbigghjbcjelaa
open Go.RowKit

/-- The cells of a whole tree. -/
def whC (m : Int) (l : List UInt8) : List Value := .int .i64 m :: u8s l
theorem whC_length (m : Int) {l : List UInt8} (h : l.length = 32) : (whC m l).length = 33 := by simp [whC, u8s_length, h]
theorem whC_one (m : Int) (l : List UInt8) : ∀ u ∈ whC m l, u.oneCell' = true := by
  intro u hu
  rcases List.mem_cons.1 hu with rfl | h
  · rfl
  · exact u8s_one l u h
theorem fill_off (k : Nat) : ∀ (l : List Value) (j : Nat) (c : Array Value), k + j + l.length = c.size → (l.zipIdx j).foldl (fun cs (x : Value × Nat) => cs.setIfInBounds (k + x.2) x.1) c = (c.toList.take (k + j) ++ l).toArray
  | [], j, c, h => by
    simp at h
    simp [h]
    rw [show c.size = c.toList.length from by simp, List.take_length]
  | v :: l, j, c, h => by
    simp at h
    rw [List.zipIdx_cons, List.foldl_cons, fill_off k l (j + 1) _ (by simp; omega)]
    congr 1
    simp only [Array.toList_setIfInBounds]
    have hk : k + j < c.toList.length := by simp; omega
    rw [← Nat.add_assoc, List.take_add_one, List.take_set_of_le (Nat.le_refl _), List.getElem?_set_self hk]
    simp
theorem built62_fill (parts : List (Nat × Value)) : Try.prog.built 62 parts = Instr.fill ((#[(0, 1), (1, 32)] : Array (Nat × Nat))[·]?) (whC 0 (List.replicate 32 0)).toArray parts := by kernel_rfl
theorem built62 (m : Int) (l : List UInt8) (hl : l.length = 32) : Try.prog.built 62 [(0, .int .i64 m), (1, hv l)] = some (whC m l).toArray := by
  obtain ⟨Z0, h0, hs⟩ : ∃ Z0 : Array Value, (∀ parts, Try.prog.built 62 parts = Instr.fill ((#[(0, 1), (1, 32)] : Array (Nat × Nat))[·]?) Z0 parts) ∧ Z0.size = 33 := ⟨_, built62_fill, by simp [whC, u8s]⟩
  rw [h0]
  have hf := fill_off 1 (u8s l) 0 (Z0.setIfInBounds 0 (.int .i64 m)) (by simp [u8s_length, hl, hs])
  have ht : (Z0.setIfInBounds 0 (Value.int .i64 m)).toList.take (1 + 0) = [Value.int .i64 m] := by
    cases Z0 with
    | mk zl => cases zl with
      | nil => simp at hs
      | cons a t => simp
  rw [ht] at hf
  simp [Instr.fill, Value.cells, u8s_length, hl, hs, hf, whC]

def rowC (rows : List (Nat × List UInt8)) : List Value := rows.flatMap fun p => whC (p.1 : Int) p.2
def RowsOk (rows : List (Nat × List UInt8)) : Prop := ∀ p ∈ rows, p.2.length = 32
theorem rowC_length : ∀ {rows : List (Nat × List UInt8)}, RowsOk rows → (rowC rows).length = rows.length * 33
  | [], _ => rfl
  | p :: t, h => by
    have h1 := whC_length (p.1 : Int) (h p (by simp))
    have h2 := rowC_length (rows := t) fun q hq => h q (by simp [hq])
    simp only [rowC, List.flatMap_cons, List.length_append, List.length_cons] at h2 ⊢
    omega
theorem rowC_at : ∀ (rows : List (Nat × List UInt8)) (i : Nat) (p : Nat × List UInt8), RowsOk rows → rows[i]? = some p → ∀ j u, (whC (p.1 : Int) p.2)[j]? = some u → (rowC rows)[i * 33 + j]? = some u
  | [], i, p, _, hp, j, u, hj => by simp at hp
  | q :: t, 0, p, h, hp, j, u, hj => by
    obtain rfl : q = p := by simpa using hp
    simp only [rowC, List.flatMap_cons, Nat.zero_mul, Nat.zero_add]
    rw [List.getElem?_append_left (List.getElem?_eq_some_iff.1 hj).1, hj]
  | q :: t, i + 1, p, h, hp, j, u, hj => by
    have h1 := whC_length (q.1 : Int) (h q (by simp))
    have := rowC_at t i p (fun q hq => h q (by simp [hq])) (by simpa using hp) j u hj
    simp only [rowC, List.flatMap_cons]
    rw [List.getElem?_append_right (by rw [h1]; omega), h1, show (i + 1) * 33 + j - 33 = i * 33 + j from by omega]
    exact this
theorem rowC_app (a b : List (Nat × List UInt8)) : rowC (a ++ b) = rowC a ++ rowC b := by simp [rowC]

/-- A tree in memory. -/
structure TreeAt (w : World) (g : Nat) (v : Value) (rows : List (Nat × List UInt8)) (n : Nat) : Prop where
  at_ : w.heap[g]? = some (.cells #[v, .int .i64 (n : Int)] 60 (0, 0))
  own : w.ownsRow 0 62 33 v rows.length (rowC rows)
  ne : v.ownBlock ≠ some g
  ok : RowsOk rows
theorem TreeAt.turn {S : Nat → Prop} {w w' : World} {g : Nat} {v : Value} {rows : List (Nat × List UInt8)} {n : Nat} (h : TreeAt w g v rows n) (t : Turn S w w') (h1 : ¬ S g) (h2 : ∀ k, v.ownBlock = some k → ¬ S k) : TreeAt w' g v rows n :=
  ⟨t.obj h.at_ h1, t.own h.own h2, h.ne, h.ok⟩
theorem TreeAt.c0 {w : World} {g : Nat} {v : Value} {rows : List (Nat × List UInt8)} {n : Nat} (h : TreeAt w g v rows n) : w.cell? ⟨g, 0, none⟩ = some v := by rw [cell_of_row w g 0 _ _ _ h.at_]; rfl
theorem TreeAt.c1 {w : World} {g : Nat} {v : Value} {rows : List (Nat × List UInt8)} {n : Nat} (h : TreeAt w g v rows n) : w.cell? ⟨g, 1, none⟩ = some (.int .i64 (n : Int)) := by rw [cell_of_row w g 1 _ _ _ h.at_]; rfl

set_option maxHeartbeats 400000 in
theorem TNew_any (w : World) :
    Calls Try.prog 13 #[] w fun e w' => ∃ g, e = .returned (.pointer (some ⟨g, 0, none⟩)) ∧ TreeAt w' g (.slice none 0 0) [] 0 ∧ w.heap.size ≤ g ∧ Pure w w' := by
  go_enter Try.func13, Try.ntmps13
  go_wp2
  go_ret
  refine ⟨w.heap.size, rfl, ⟨heap_alloc_new w _, World.ownsRow_nil _ _ _ _, by simp [Value.ownBlock], fun _ h => by simp at h⟩, Nat.le_refl _, (Turn.refl _ w).alloc _⟩

set_option maxHeartbeats 400000 in
theorem TSize_any (w : World) (g : Nat) (v : Value) (rows : List (Nat × List UInt8)) (n : Nat) (h : TreeAt w g v rows n) :
    Calls Try.prog 14 #[.pointer (some ⟨g, 0, none⟩)] w fun e w' => e = .returned (.int .i64 (n : Int)) ∧ w' = w := by
  have c1 := h.c1
  clear h
  go_enter Try.func14, Try.ntmps14
  go_wp2
  go_ret
  exact ⟨rfl, rfl⟩

/-- The root of whole trees, the greater ones first. -/
def joinAll : List (Nat × List UInt8) → List UInt8
  | [] => []
  | [p] => p.2
  | p :: q :: t => joinV p.2 (joinAll (q :: t))
theorem joinAll_cons (p : Nat × List UInt8) {t : List (Nat × List UInt8)} (h : t ≠ []) : joinAll (p :: t) = joinV p.2 (joinAll t) := by
  cases t with
  | nil => exact absurd rfl h
  | cons q t => rfl
theorem joinAll_length : ∀ {rows : List (Nat × List UInt8)}, RowsOk rows → rows ≠ [] → (joinAll rows).length = 32
  | [p], h, _ => h p (by simp)
  | p :: q :: t, h, _ => joinV_length _ _

set_option maxHeartbeats 1000000 in
theorem TRoot_nil (w : World) (g : Nat) (v : Value) (n : Nat) (h : TreeAt w g v [] n) :
    Calls Try.prog 15 #[.pointer (some ⟨g, 0, none⟩)] w fun e w' => e = .returned (hv (rootV [])) ∧ Pure w w' := by
  obtain ⟨X, hXl, HZ⟩ := ex28
  obtain ⟨ao, cv, rfl, _⟩ := ownsRow_shape h.own
  have HT := Lib.hid h; clear h
  go_enter Try.func15, Try.ntmps15
  go_wp2_with (refine wpList_allocZ rfl 28 rfl X HZ.out ?_)
  intro g0 w1 e0 c0 t0 s0
  have l0 : w.heap.size ≤ g0 := by omega
  clear e0 s0
  have c00 := (HT.out.turn t0 (fun e => e) (fun _ _ e => e)).c0
  have C0 := Lib.hid c0; have P1 := Lib.hid t0; clear c0 t0
  go_wp2_with fail
  refine (Root_nil _ _ _).mono ?_
  rintro e w2 ⟨rfl, t2⟩
  have C2 := Lib.hid (t2.obj C0.out (fun e => e))
  have P2 := Lib.hid (P1.out.pure t2)
  clear C0 P1 t2
  go_wp2_with (refine wpList_store_blk rfl 28 _ _ rfl g0 _ (u8s (rootV [])) _ rfl rfl C2.out (size28 hXl (rootV_length [])) (info28_l (rootV_length [])) (u8s_one _) ?_)
  intro w9 c9 t9 _
  have hc9 := Lib.hid c9; clear c9
  have HT9 := Lib.hid (P2.out.trans t9 fun i hi e => by omega)
  clear t9
  go_wp2
  exact bodyPost_ret (v := hv (rootV [])) (results_cell_row Try.results15 _ _ g0 _ (u8s (rootV [])).toArray _ _ rfl hc9.out Try.underlying28 rfl (info28_a (rootV_length []))) rfl ⟨rfl, HT9.out⟩

set_option maxRecDepth 100000 in
set_option maxHeartbeats 1000000 in
theorem TRoot_more (w : World) (g : Nat) (v : Value) (rows : List (Nat × List UInt8)) (tn : Nat) (hrn : rows ≠ []) (h : TreeAt w g v rows tn) :
    Calls Try.prog 15 #[.pointer (some ⟨g, 0, none⟩)] w fun e w' => e = .returned (hv (joinAll rows)) ∧ Pure w w' := by
  obtain ⟨X, hXl, HZ⟩ := ex28
  have hn0 : rows.length ≠ 0 := by simpa using hrn
  rcases h.own.2 with ⟨_, h0⟩ | ⟨gb, cap, cur, rfl, _, hgb, hnc, hcm, hcs, htake⟩
  · exact absurd h0 hn0
  clear hgb hcs htake
  have hne : gb ≠ g := fun e => h.ne (by rw [e]; rfl)
  have hok := h.ok
  have hlt := h.own.lt gb rfl
  have hg := (Array.getElem?_eq_some_iff.1 h.at_).1
  have hrange : w.rangeAt gb 0 (rowC rows) := by
    intro j u hj
    have := h.own.cells (g := gb) rfl j u hj
    rwa [Addr.add_mid] at this
  have hroot : ∀ (i : Nat) (hi : i < rows.length), w.rangeAt gb (i * 33 + 1) (u8s (rows[i]).2) := by
    intro i hi j u hj
    have := hrange (i * 33 + (j + 1)) u (rowC_at rows i rows[i] hok (by simp) (j + 1) u (by simpa [whC] using hj))
    rwa [Nat.zero_add, ← Nat.add_assoc, Nat.add_right_comm] at this
  have hmx : cap ≤ 9223372036854775807 := hcm
  have HROOT := Lib.hid hroot; clear hroot hrange
  have HT := Lib.hid h; clear h
  obtain ⟨n, hn⟩ : ∃ n, n = rows.length := ⟨_, rfl⟩
  rw [← hn] at hnc hn0
  obtain ⟨m, hm⟩ : ∃ m, m = n - 1 := ⟨_, rfl⟩
  have hml : m < rows.length := by omega
  obtain ⟨R, hR⟩ : ∃ R, R = (rows[m]).2 := ⟨_, rfl⟩
  have HR : Hid (R.length = 32) := Lib.hid (by rw [hR]; exact hok _ (List.getElem_mem hml))
  have hdrop : joinAll (rows.drop m) = R := by
    rw [List.drop_eq_getElem_cons hml, hR, show rows.drop (m + 1) = [] from List.drop_of_length_le (by omega)]
    rfl
  have hrr := HROOT.out m hml
  rw [← hR] at hrr
  have HRR := Lib.hid hrr; clear hrr
  have q1 : ((n : Int) == 0) = false := by simp; omega
  have q2 : IntKind.i64.wrap ((n : Int) - 1) = (m : Int) := by rw [IntWalk.i64_in _ (by omega)]; omega
  have q3 : (m : Int) < n := by omega
  have q4 : (0 : Int) ≤ m := by omega
  have q5 : IntKind.i64.wrap ((n : Int) - 2) = (m : Int) - 1 := by rw [IntWalk.i64_in _ (by omega)]; omega
  have HM := Lib.hid (And.intro hn (And.intro hm (And.intro hR (And.intro hdrop (And.intro hn0 hnc))))); clear hm hR hdrop hn0 hnc
  have HN := Lib.hid hn; clear hn
  go_enter Try.func15, Try.ntmps15
  go_wp2_with (refine wpList_allocZ rfl 28 rfl X HZ.out ?_)
  intro g0 w1 e0 c0 t0 s0
  have l0 : w.heap.size ≤ g0 := by omega
  clear e0 s0
  have c00 := (HT.out.turn t0 (fun e => e) (fun _ _ e => e)).c0
  rw [← HN.out] at c00
  have C0 := Lib.hid c0; have P1 := Lib.hid t0; clear c0 t0
  go_wp2_with fail
  refine wp_region_held_drew (S := fun w' => w'.cell? ⟨g, 0, none⟩ = some (.slice (some ⟨gb, 0, none⟩) n cap) ∧ w'.rangeAt gb (m * 33 + 1) (u8s R)) (by kernel_rfl) ⟨c00, P1.out.drew.range HRR.out (fun e => e)⟩ (fun hHeld => ?_)
  refine wpAnyH_take (i := 0) (v := .pointer (some ⟨g, 0, none⟩)) rfl (by kernel_rfl) (by kernel_rfl) (by kernel_rfl) (fun _ _ _ h => h) (Or.inl ⟨by rfl, fun w hSw => by go_simp⟩) hHeld ?_
  simp only [List.getElem_toArray, List.getElem_cons_zero, Act.put, List.setIfInBounds_toArray, List.set_cons_zero, List.set_cons_succ]
  refine wpAnyH_take (i := 1) (v := .pointer (some ⟨g, 0, none⟩)) rfl (by kernel_rfl) (by kernel_rfl) (by kernel_rfl) (fun _ _ _ h => h) (Or.inl ⟨by rfl, fun w hSw => by go_simp⟩) hHeld ?_
  simp only [List.getElem_toArray, List.getElem_cons_succ, List.getElem_cons_zero, Act.put, List.setIfInBounds_toArray, List.set_cons_zero, List.set_cons_succ]
  refine wpAnyH_take (i := 2) (v := .pointer (some ⟨g, 0, none⟩)) rfl (by kernel_rfl) (by kernel_rfl) (by kernel_rfl) (fun _ _ _ h => h) (Or.inl ⟨by rfl, fun w hSw => by go_simp⟩) hHeld ?_
  simp only [List.getElem_toArray, List.getElem_cons_succ, List.getElem_cons_zero, Act.put, List.setIfInBounds_toArray, List.set_cons_zero, List.set_cons_succ]
  refine wpAnyH_take (i := 3) (v := .slice (some ⟨gb, 0, none⟩) n cap) rfl (by kernel_rfl) (by kernel_rfl) (by kernel_rfl) (fun _ _ _ h => h) (Or.inl ⟨by rfl, fun w hSw => by go_simp⟩) hHeld ?_
  simp only [List.getElem_toArray, List.getElem_cons_succ, List.getElem_cons_zero, Act.put, List.setIfInBounds_toArray, List.set_cons_zero, List.set_cons_succ]
  refine wpAnyH_take (i := 4) (v := .pointer (some ⟨g, 0, none⟩)) rfl (by kernel_rfl) (by kernel_rfl) (by kernel_rfl) (fun _ _ _ h => h) (Or.inl ⟨by rfl, fun w hSw => by go_simp⟩) hHeld ?_
  simp only [List.getElem_toArray, List.getElem_cons_succ, List.getElem_cons_zero, Act.put, List.setIfInBounds_toArray, List.set_cons_zero, List.set_cons_succ]
  refine wpAnyH_take (i := 5) (v := .pointer (some ⟨g, 0, none⟩)) rfl (by kernel_rfl) (by kernel_rfl) (by kernel_rfl) (fun _ _ _ h => h) (Or.inl ⟨by rfl, fun w hSw => by go_simp⟩) hHeld ?_
  simp only [List.getElem_toArray, List.getElem_cons_succ, List.getElem_cons_zero, Act.put, List.setIfInBounds_toArray, List.set_cons_zero, List.set_cons_succ]
  refine wpAnyH_take (i := 6) (v := .pointer (some ⟨g, 0, none⟩)) rfl (by kernel_rfl) (by kernel_rfl) (by kernel_rfl) (fun _ _ _ h => h) (Or.inl ⟨by rfl, fun w hSw => by go_simp⟩) hHeld ?_
  simp only [List.getElem_toArray, List.getElem_cons_succ, List.getElem_cons_zero, Act.put, List.setIfInBounds_toArray, List.set_cons_zero, List.set_cons_succ]
  refine wpAnyH_take (i := 7) (v := .slice (some ⟨gb, 0, none⟩) n cap) rfl (by kernel_rfl) (by kernel_rfl) (by kernel_rfl) (fun _ _ _ h => h) (Or.inl ⟨by rfl, fun w hSw => by go_simp⟩) hHeld ?_
  simp only [List.getElem_toArray, List.getElem_cons_succ, List.getElem_cons_zero, Act.put, List.setIfInBounds_toArray, List.set_cons_zero, List.set_cons_succ]
  refine wpAnyH_take (i := 8) (v := .int .i64 (n : Int)) rfl (by kernel_rfl) (by kernel_rfl) (by kernel_rfl) (fun _ _ _ h => h) (Or.inl ⟨by rfl, fun w hSw => by go_simp⟩) hHeld ?_
  simp only [List.getElem_toArray, List.getElem_cons_succ, List.getElem_cons_zero, Act.put, List.setIfInBounds_toArray, List.set_cons_zero, List.set_cons_succ]
  refine wpAnyH_take (i := 9) (v := .int .i64 (m : Int)) rfl (by kernel_rfl) (by kernel_rfl) (by kernel_rfl) (fun _ _ _ h => h) (Or.inl ⟨by rfl, fun w hSw => by go_simp⟩) hHeld ?_
  simp only [List.getElem_toArray, List.getElem_cons_succ, List.getElem_cons_zero, Act.put, List.setIfInBounds_toArray, List.set_cons_zero, List.set_cons_succ]
  refine wpAnyH_take (i := 10) (v := .pointer (some ⟨gb, m * 33, none⟩)) rfl (by kernel_rfl) (by kernel_rfl) (by kernel_rfl) (fun _ _ _ h => h) (Or.inl ⟨by rfl, fun w hSw => by go_simp⟩) hHeld ?_
  simp only [List.getElem_toArray, List.getElem_cons_succ, List.getElem_cons_zero, Act.put, List.setIfInBounds_toArray, List.set_cons_zero, List.set_cons_succ]
  refine wpAnyH_take (i := 11) (v := .pointer (some ⟨gb, m * 33 + 1, none⟩)) rfl (by kernel_rfl) (by kernel_rfl) (by kernel_rfl) (fun _ _ _ h => h) (Or.inl ⟨by rfl, fun w hSw => by go_simp⟩) hHeld ?_
  simp only [List.getElem_toArray, List.getElem_cons_succ, List.getElem_cons_zero, Act.put, List.setIfInBounds_toArray, List.set_cons_zero, List.set_cons_succ]
  refine wpAnyH_take (i := 12) (v := hv R) rfl (by kernel_rfl) (by kernel_rfl) (by kernel_rfl) (fun _ _ _ h => h) (yieldsIf_load_mid (by rfl) 28 _ rfl gb (m * 33 + 1) rfl (u8s R) _ (fun w h => h.2) Try.underlying28 rfl (info28_l HR.out)) hHeld ?_
  simp only [List.getElem_toArray, List.getElem_cons_succ, List.getElem_cons_zero, Act.put, List.setIfInBounds_toArray, List.set_cons_zero, List.set_cons_succ]
  refine wpAnyH_seq [13, 14] _ _ _ _ (by kernel_rfl) (by simp) ?_
  simp only [List.filterMap_cons, List.filterMap_nil, List.getElem?_toArray, List.getElem?_cons_zero, List.getElem?_cons_succ]
  have C4 := Lib.hid (show w1.drew.heap[g0]? = _ from C0.out)
  have P4 := Lib.hid (P1.out.drew)
  generalize w1.drew = w4 at *
  have HH := Lib.hid hHeld
  clear C0 P1 hHeld c00
  refine wpSeqH_allocZ rfl 28 rfl X HZ.out ?_
  intro g3 w5 e5 c5 t5 s5
  have l3 : g0 < g3 := by have := (Array.getElem?_eq_some_iff.1 C4.out).1; omega
  refine ⟨⟨t5.cell HH.out.1 (fun e => e), t5.range HH.out.2 (fun e => e)⟩, ?_⟩
  have C5 := Lib.hid (t5.obj C4.out (fun e => e))
  have P5 := Lib.hid (P4.out.pure t5)
  have HH5 := Lib.hid (And.intro (t5.cell HH.out.1 (fun e => e)) (t5.range HH.out.2 (fun e => e)))
  clear e5 t5 s5 C4 P4 HH
  refine wpSeqH_store_blk rfl 28 _ _ rfl g3 _ (u8s R) _ rfl rfl c5 (size28 hXl HR.out) (info28_l HR.out) (u8s_one _) ?_
  intro w6 c6 t6 _
  refine ⟨⟨t6.cell HH5.out.1 (by show ¬ g = g3; omega), t6.range HH5.out.2 (by omega)⟩, wpSeqH_nil ?_⟩
  have C6 := Lib.hid (t6.obj C5.out (by omega))
  have P6 := Lib.hid (P5.out.trans t6 fun i hi e => by omega)
  have D6 := Lib.hid c6
  clear c6 t6 c5 C5 P5 HH5
  have c00 := (HT.out.turn P6.out (fun e => e) (fun _ _ e => e)).c0
  rw [← HN.out] at c00
  go_wp2
  go_loopw [4] (fun i wr => ∃ j : Nat, j ≤ m ∧ i = .int .i64 ((j : Int) - 1) ∧ Hid (wr.heap[g3]? = some (.cells (u8s (joinAll (rows.drop j))).toArray 28 (0, 0))) ∧ Turn (fun b => b = g3) w6 wr) (fun i _ => (intOf i + 1).toNat)
  case atStart => exact ⟨m, Nat.le_refl _, rfl, Lib.hid (by rw [HM.out.2.2.2.1]; exact D6.out), Turn.refl _ _⟩
  case round =>
    obtain ⟨j, hj, rfl, HC, ht⟩ := hrel
    cases j with
    | succ q =>
      have hqr : q < rows.length := by omega
      have hq1 : (((q + 1 : Nat) : Int) - 1) = (q : Int) := by omega
      rw [hq1]
      clear hq1
      obtain ⟨A, hA⟩ : ∃ A, A = (rows[q]).2 := ⟨_, rfl⟩
      have hAl : A.length = 32 := by rw [hA]; exact hok _ (List.getElem_mem hqr)
      obtain ⟨B, hB⟩ : ∃ B, B = joinAll (rows.drop (q + 1)) := ⟨_, rfl⟩
      have hdn : rows.drop (q + 1) ≠ [] := by
        intro e
        have := congrArg List.length e
        simp only [List.length_drop, List.length_nil] at this
        have := HM.out
        omega
      have hBl : B.length = 32 := by rw [hB]; exact joinAll_length (fun p hp => hok p (List.mem_of_mem_drop hp)) hdn
      have hjn : joinV A B = joinAll (rows.drop q) := by
        rw [List.drop_eq_getElem_cons hqr, joinAll_cons _ hdn, hA, hB]
      rw [← hB] at HC
      have hra := ht.range (P6.out.range (HROOT.out q hqr) (fun e => e)) (by omega)
      rw [← hA] at hra
      have hrb := range_of_row HC.out
      have c00 := ht.cell c00 (by show ¬ g = g3; omega)
      have q7 : (q : Int) < n := by have := HN.out; omega
      have q8 : (0 : Int) ≤ q := by omega
      have q9 : IntKind.i64.wrap ((q : Int) - 1) = (q : Int) - 1 := IntWalk.i64_in _ (by have := HM.out; omega)
      have HJ := Lib.hid (And.intro hjn (And.intro trivial (And.intro hB (And.intro hdn (And.intro hAl (And.intro hBl (And.intro hj hqr)))))))
      have HRA := Lib.hid hra; have HRB := Lib.hid hrb
      have HIA := Lib.hid (info28_l hAl); have HIB := Lib.hid (info28_l hBl)
      clear hjn hA hB hdn hAl hBl hj hqr hra hrb
      go_wp2_with fail
      refine wp_region_still_tail 9 (by kernel_rfl) (by kernel_rfl) ?_
      simp only [List.take_succ_cons, List.take_zero, List.drop_succ_cons, List.drop_zero]
      repeat still_step
      refine wpStill_load_mid rfl 28 _ rfl gb (q * 33 + 1) rfl (u8s A) _ (show wr.drew.rangeAt gb (q * 33 + 1) (u8s A) from HRA.out) Try.underlying28 rfl HIA.out ?_
      repeat still_step
      refine wpStill_load_mid rfl 28 _ rfl g3 0 rfl (u8s B) _ (show wr.drew.rangeAt g3 0 (u8s B) from HRB.out) Try.underlying28 rfl HIB.out ?_
      refine wpStill_nil ?_
      change wpList _ _ _ _ _ wr.drew
      have HC4 := Lib.hid (show wr.drew.heap[g3]? = _ from HC.out)
      have T4 := Lib.hid ht.drew
      clear HC ht HRA HRB c00
      generalize wr.drew = w7 at *
      go_wp2_with fail
      refine (Join_any _ A B HJ.out.2.2.2.2.1 HJ.out.2.2.2.2.2.1).mono ?_
      rintro e w8 ⟨rfl, t8⟩
      have HC5 := Lib.hid (t8.obj HC4.out (fun e => e))
      have T5 := Lib.hid (T4.out.pure t8)
      clear t8 HC4 T4
      go_wp2_with (refine wpList_store_blk rfl 28 _ _ rfl g3 _ (u8s (joinV A B)) _ rfl rfl HC5.out (by rw [List.size_toArray, u8s_length, u8s_length, HJ.out.2.2.2.2.2.1, joinV_length]) (info28_l (joinV_length A B)) (u8s_one _) ?_)
      intro w9 c9 t9 _
      rw [HJ.out.1] at c9
      have HC9 := Lib.hid c9
      have T9 := Lib.hid (T5.out.trans t9 fun _ _ e => e)
      clear c9 t9 HC5 T5
      go_wp2
      exact ⟨⟨q, by have := HJ.out; omega, rfl, HC9, T9.out⟩, by simp [intOf]⟩
    | zero =>
      have c0 := Lib.hid (ht.obj C6.out (by omega))
      have P9 : Hid (Pure w wr) := Lib.hid (P6.out.trans ht fun i hi e => by omega)
      have HC2 : Hid (wr.heap[g3]? = some (.cells (u8s (joinAll rows)).toArray 28 (0, 0))) := Lib.hid HC.out
      have hjl : (joinAll rows).length = 32 := joinAll_length hok hrn
      have HI1 := Lib.hid (info28_l hjl); have HI2 := Lib.hid (info28_a hjl); have HS := Lib.hid (size28 hXl hjl)
      clear HC ht C6 P6 D6
      go_wp2_with (first | (refine wpList_load_row rfl 28 _ rfl g3 rfl _ (u8s (joinAll rows)).toArray _ _ HC2.out Try.underlying28 rfl HI2.out ?_) | (refine wpList_store_blk rfl 28 _ _ rfl g0 _ (u8s (joinAll rows)) _ rfl rfl c0.out HS.out HI1.out (u8s_one _) ?_))
      intro w9 c9 t9 _
      have hc9 := Lib.hid c9; clear c9
      have HT9 := Lib.hid (P9.out.trans t9 fun i hi e => by omega)
      clear t9
      go_wp2
      exact bodyPost_ret (v := hv (joinAll rows)) (results_cell_row Try.results15 _ _ g0 _ (u8s (joinAll rows)).toArray _ _ rfl hc9.out Try.underlying28 rfl HI2.out) rfl ⟨rfl, HT9.out⟩
end Go.Proofs.Ytjbigghjbcjelaa
