/- Package vec and its reference: rows of numbers, made; the law's own helpers. -/
import Derived.Test.YtjingpkgappblaaVec
import Derived.Laws.Small
import Derived.Deep.RegionHeld3
import Derived.Deep.AppendLies
import Derived.Laws.Pointers
import Derived.StillTactics
namespace Go.Proofs.Ytjingpkgappblaa
open Go.RowKit

def ints (l : List Int) : List Value := l.map fun x => .int .i64 x
theorem ints_length (l : List Int) : (ints l).length = l.length := by simp [ints]
theorem ints_one (l : List Int) : ∀ u ∈ ints l, u.oneCell' = true := by
  intro u hu
  obtain ⟨b, _, rfl⟩ := List.mem_map.1 hu
  rfl
theorem ints_app (a b : List Int) : ints (a ++ b) = ints a ++ ints b := by simp [ints]
def In64 (l : List Int) : Prop := ∀ (i : Nat) (x : Int), l[i]? = some x → -9223372036854775808 ≤ x ∧ x ≤ 9223372036854775807
theorem Ints.in64 {w : World} {v : Value} {l : List Int} (h : Ints w v l) : In64 l := by
  obtain ⟨_, _, _, _, _, _, h⟩ := h
  exact fun i x hx => ⟨(h i x hx).1, (h i x hx).2.1⟩
theorem ints_own {w : World} {v : Value} {l : List Int} {n : Nat} (h : w.ownsRow 0 3 1 v n (ints l)) (h1 : In64 l) (h2 : l.length ≤ 17592186044416) : Ints w v l := by
  have hn : l.length = n := by simpa [ints] using h.1
  subst hn
  rcases h.2 with ⟨rfl, h0⟩ | ⟨g, cap, cur, rfl, _, hg, hc, hm, hs, ht⟩
  · refine ⟨none, 0, by rw [h0], by omega, h2, fun _ => rfl, fun i x hx => ?_⟩
    have : l = [] := List.eq_nil_of_length_eq_zero h0
    subst this
    simp at hx
  · refine ⟨_, cap, rfl, hc, h2, (fun h => by cases h), fun i x hx => ⟨(h1 i x hx).1, (h1 i x hx).2, g, 0, rfl, ?_⟩⟩
    have := h.cells (g := g) rfl i (.int .i64 x) (by simp [ints, hx])
    rwa [Addr.add_mid] at this
theorem ints_block {w : World} {g : Nat} {T : TypeId} {fr : Nat × Nat} {l : List Int} {cap : Nat} (h : w.heap[g]? = some (.cells (ints l).toArray T fr)) (hc : l.length ≤ cap) (h1 : In64 l) (h2 : l.length ≤ 17592186044416) : Ints w (.slice (some ⟨g, 0, none⟩) l.length cap) l := by
  refine ⟨_, cap, rfl, hc, h2, (fun h => by cases h), fun i x hx => ⟨(h1 i x hx).1, (h1 i x hx).2, g, 0, rfl, ?_⟩⟩
  rw [Nat.zero_add, cell_of_row w g i _ _ _ h]
  simp [ints, hx]

/-- What Join answers. -/
def maxI (x y : Int) : Int := if y > x then y else x
def joinL (l m : List Int) : List Int := List.zipWith maxI l m
def joinV (l m : List Int) : List Int × Int := if fitB l m then (joinL l m, 0) else ([], 1800)
theorem joinL_length {l m : List Int} (h : l.length = m.length) : (joinL l m).length = l.length := by simp [joinL]; omega
theorem joinL_get {l m : List Int} {k : Nat} (h1 : k < l.length) (h2 : k < m.length) : (joinL l m)[k]? = some (maxI l[k] m[k]) := by
  simp [joinL, List.getElem?_zipWith, h1, h2]
theorem joinL_in {l m : List Int} (h : In64 l) (k : In64 m) : In64 (joinL l m) := by
  intro i x hx
  simp only [joinL, List.getElem?_zipWith] at hx
  cases hl : l[i]? with
  | none => rw [hl] at hx; simp at hx
  | some a =>
    cases hm : m[i]? with
    | none => rw [hl, hm] at hx; simp at hx
    | some b =>
      rw [hl, hm] at hx
      simp at hx
      subst hx
      have := h i a hl
      have := k i b hm
      unfold maxI
      split <;> assumption

theorem Try.infoInt : (Try.prog.info? 3).map (fun i => (i.zero, i.size, i.bytes)) = some (some (.int .i64 0), 1, 8) := by kernel_rfl
theorem made_int (n : Nat) : madeCells #[Value.int .i64 0] n = (ints (List.replicate n 0)).toArray := by
  apply Array.toList_inj.1
  simp only [madeCells, ints, Array.toList_map, List.map_replicate]
  apply List.ext_getElem
  · simp
  · intro i h1 h2
    simp [Nat.mod_one]
theorem make_int (w : World) (n : Nat) (hn : n ≤ 109951162777) :
    (Instr.makeSlice 22 (.int .i64 n) (.int .i64 n)).run Try.prog w = .ok (.slice (some ⟨w.heap.size, 0, none⟩) n n) (w.alloc (.cells (ints (List.replicate n 0)).toArray 3)) := by
  obtain ⟨i, hi, h1, h2, h3⟩ := info_parts Try.infoInt
  have := run_make (P := Try.prog) w 22 3 i (.int .i64 0) Try.underlying22 hi h1 .i64 .i64 n n (by omega) (by omega) (by rw [h3]; omega) (by omega)
  rw [this, h2]
  simp [Value.cells, made_int]

/-- The maxima that are written after k rounds. -/
def joinCur (J : List Int) (k : Nat) : List Int := J.take k ++ List.replicate (J.length - k) 0
theorem joinCur_zero (J : List Int) : joinCur J 0 = List.replicate J.length 0 := by simp [joinCur]
theorem joinCur_full (J : List Int) : joinCur J J.length = J := by simp [joinCur]
theorem joinCur_length (J : List Int) (k : Nat) (h : k ≤ J.length) : (joinCur J k).length = J.length := by simp [joinCur]; omega
theorem joinCur_set (J : List Int) (k : Nat) (x : Int) (h : J[k]? = some x) : ((ints (joinCur J k)).toArray).setIfInBounds k (.int .i64 x) = (ints (joinCur J (k + 1))).toArray := by
  have hk : k < J.length := (List.getElem?_eq_some_iff.1 h).1
  apply Array.toList_inj.1
  have r : List.replicate (J.length - k) (0 : Int) = 0 :: List.replicate (J.length - (k + 1)) 0 := by
    rw [show J.length - k = (J.length - (k + 1)) + 1 from by omega, List.replicate_succ]
  have hl : (J.take k).length = k := by simp; omega
  simp only [Array.toList_setIfInBounds, ints, joinCur, r, List.map_append, List.map_cons, List.take_add_one, h, Option.toList_some, List.append_assoc, List.cons_append, List.nil_append]
  rw [List.set_append_right _ _ (by rw [List.length_map, hl]; exact Nat.le_refl _), List.length_map, hl]
  simp

set_option maxHeartbeats 1000000 in
theorem Join_any (w : World) (v u : Value) (l m : List Int) (h : Ints w v l) (k : Ints w u m) :
    Calls Try.prog 15 #[v, u] w fun e w' => (∃ r, e = .returned (.tuple #[r, .int .i64 (joinV l m).2]) ∧ Ints w' r (joinV l m).1) ∧ Pure w w' := by
  by_cases hf : fitB l m = true
  · have e : joinV l m = (joinL l m, 0) := by rw [joinV, if_pos hf]
    obtain ⟨hl, hl1, hl16⟩ := fitB_len hf
    rw [e]
    have hJ := joinL_in h.in64 k.in64
    have HJ := Lib.hid hJ; clear hJ
    have hmk := make_int w l.length (by omega)
    have HF := Lib.hid hf
    clear e hf
    go_enter Try.func15, Try.ntmps15
    go_wp2_with fail
    refine (fit_any _ _ _ _ _ h k).mono ?_
    rintro e w1 ⟨rfl, rfl⟩
    rw [HF.out]
    obtain ⟨ao, cap, rfl, hcap, hlen, hnil, hel⟩ := h
    obtain ⟨ao2, cap2, rfl, hcap2, hlen2, hnil2, hel2⟩ := k
    rw [← hl] at hcap2
    have hjl := joinL_length hl
    have hjg : ∀ k (h1 : k < l.length) (h2 : k < m.length), (joinL l m)[k]? = some (maxI l[k] m[k]) := fun k h1 h2 => joinL_get h1 h2
    have HL := Lib.hid hl; clear hl
    rw [← HL.out]
    have HEL := Lib.hid hel; clear hel hnil
    have HEL2 := Lib.hid hel2; clear hel2 hnil2 hlen2
    have HJG := Lib.hid hjg; clear hjg
    generalize hje : joinL l m = J at HJ HJG hjl
    have HJE := Lib.hid hje; clear hje
    have HJL := Lib.hid hjl; clear hjl
    go_wp2
    clear hmk
    go_loopw [7, 17] (fun _ i wr => ∃ k : Nat, k ≤ l.length ∧ i = .int .i64 k ∧ wr.heap[w1.heap.size]? = some (.cells (ints (joinCur J k)).toArray 3 (0, 0)) ∧ Pure w1 wr) (fun _ i _ => l.length - (intOf i).toNat)
    case atStart => exact ⟨0, by omega, rfl, by rw [joinCur_zero, heap_alloc_new, HJL.out], (Turn.refl _ _).alloc _⟩
    case round =>
      obtain ⟨k, hk, rfl, hg, ht⟩ := hrel
      by_cases hlk : k < l.length
      · have hlk2 : k < m.length := by rw [← HL.out]; exact hlk
        obtain ⟨x1, x2, b, o, rfl, hc⟩ := HEL.out k l[k] (by simp [hlk])
        obtain ⟨y1, y2, b2, o2, rfl, hc2⟩ := HEL2.out k m[k] (by simp [hlk2])
        have hx := Lib.hid (HJG.out k hlk hlk2)
        generalize l[k] = x at x1 x2 hc hx
        generalize m[k] = y at y1 y2 hc2 hx
        clear hlk2
        have hc := ht.cell hc (fun e => e)
        have hc2 := ht.cell hc2 (fun e => e)
        have hcur : wr.cell? ⟨w1.heap.size, k, none⟩ = some ((ints (joinCur J k)).getD k undef) := by
          rw [cell_of_row wr _ k _ _ _ hg]
          have := joinCur_length J k (by rw [HJL.out]; omega)
          have hlt : k < (ints (joinCur J k)).length := by rw [ints_length, this, HJL.out]; exact hlk
          simp [List.getD, hlt]
        have hfr := frozen_of_row wr w1.heap.size k _ _ hg
        have hg2 : (wr.setCell ⟨w1.heap.size, k, none⟩ (.int .i64 (maxI x y))).drew.heap[w1.heap.size]? = some (.cells (ints (joinCur J (k + 1))).toArray 3 (0, 0)) := by
          rw [← joinCur_set J k _ hx.out]
          show (wr.setCell ⟨w1.heap.size, k, none⟩ (.int .i64 (maxI x y))).heap[w1.heap.size]? = _
          simp only [World.setCell, Array.getElem?_modify, if_true, hg, Option.map_some]
          rfl
        have ht2 : Pure w1 (wr.setCell ⟨w1.heap.size, k, none⟩ (.int .i64 (maxI x y))).drew := (ht.setCell (by simp) _).drew
        have HG2 := Lib.hid hg2
        have HT2 := Lib.hid ht2
        clear hg hg2 ht2 ht
        go_wp2_with fail
        go_still_tail 12, (by kernel_rfl)
        go_wp2
        exact ⟨⟨k + 1, by omega, by go_num, HG2.out, HT2.out⟩, by simp [intOf]; omega⟩
      · obtain rfl : k = l.length := by omega
        go_wp2
        go_ret2
        refine ⟨⟨_, rfl, ?_⟩, ht⟩
        rw [HJE.out]
        rw [← HJL.out, joinCur_full] at hg
        have := ints_block (cap := l.length) hg (by rw [HJL.out]; omega) HJ.out (by rw [HJL.out]; omega)
        rw [HJL.out] at this
        exact this
  · have hf' : fitB l m = false := by simpa using hf
    have e : joinV l m = ([], 1800) := by rw [joinV, if_neg hf]
    rw [e]
    have HF := Lib.hid hf'
    clear e hf hf'
    go_enter Try.func15, Try.ntmps15
    go_wp2_with fail
    refine (fit_any _ _ _ _ _ h k).mono ?_
    rintro e w1 ⟨rfl, rfl⟩
    rw [HF.out]
    go_wp2_with fail
    go_ret2
    exact ⟨⟨_, rfl, Ints.nil _⟩, Turn.refl _ _⟩

set_option maxHeartbeats 1000000 in
theorem Same_any (w : World) (v u : Value) (l m : List Int) (h : Ints w v l) (k : Ints w u m) :
    Calls Try.prog 20 #[v, u] w fun e w' => e = .returned (.bool (decide (l = m))) ∧ Pure w w' := by
  obtain ⟨ao, cap, rfl, hcap, hlen, hnil, hel⟩ := h
  obtain ⟨ao2, cap2, rfl, hcap2, hlen2, hnil2, hel2⟩ := k
  by_cases hl : l.length = m.length
  · rw [← hl] at hcap2
    have HL := Lib.hid hl; clear hl
    rw [← HL.out]
    have HEL := Lib.hid hel; clear hel hnil
    have HEL2 := Lib.hid hel2; clear hel2 hnil2 hlen2
    go_enter Try.func20, Try.ntmps20
    go_wp2
    go_loopw [5] (fun i wr => ∃ k : Nat, k ≤ l.length ∧ i = .int .i64 k ∧ Hid (l.take k = m.take k) ∧ ∃ q, wr = w.drewN q) (fun i _ => l.length - (intOf i).toNat)
    case atStart => exact ⟨0, by omega, rfl, Lib.hid (by simp), 0, rfl⟩
    case round =>
      obtain ⟨k, hk, rfl, HA, q, rfl⟩ := hrel
      by_cases hlk : k < l.length
      · have hlk2 : k < m.length := by rw [← HL.out]; exact hlk
        obtain ⟨x1, x2, b, o, rfl, hc⟩ := HEL.out k l[k] (by simp [hlk])
        obtain ⟨y1, y2, b2, o2, rfl, hc2⟩ := HEL2.out k m[k] (by simp [hlk2])
        have hx := Lib.hid (show l[k]? = some l[k] by simp [hlk])
        have hy := Lib.hid (show m[k]? = some m[k] by simp [hlk2])
        generalize l[k] = x at x1 x2 hc hx
        generalize m[k] = y at y1 y2 hc2 hy
        clear hlk2
        by_cases hp : x = y
        · have hd : (x == y) = true := by simpa using hp
          have hd2 : (x != y) = false := by simpa using hp
          have HP := Lib.hid hp; clear hp
          go_wp2_with fail
          go_quiet (fail)
          go_wp2
          refine ⟨⟨k + 1, by omega, by go_num, Lib.hid ?_, _, rfl⟩, by simp [intOf]; omega⟩
          rw [List.take_add_one, List.take_add_one, HA.out, hx.out, hy.out, HP.out]
        · have hd : (x == y) = false := by simpa using hp
          have hd2 : (x != y) = true := by simpa using hp
          have HP := Lib.hid hp; clear hp
          go_wp2_with fail
          go_quiet (fail)
          go_wp2
          go_ret
          refine ⟨?_, ((Turn.refl _ _).drewN q).drewN nq⟩
          have : ¬ l = m := by
            rintro rfl
            have := hx.out.symm.trans hy.out
            exact HP.out (by simpa using this)
          simp [this]
      · obtain rfl : k = l.length := by omega
        have hall := HA.out
        rw [List.take_length, HL.out, List.take_length] at hall
        go_wp2
        go_ret
        exact ⟨by simp [hall], (Turn.refl _ _).drewN q⟩
  · have hd : ((l.length : Int) != (m.length : Int)) = true := by simp; omega
    have hne : ¬ l = m := fun e => hl (by rw [e])
    have HN := Lib.hid hne; clear hne hl hel hel2 hnil hnil2
    go_enter Try.func20, Try.ntmps20
    go_wp2
    go_ret
    exact ⟨by simp [HN.out], Turn.refl _ _⟩

theorem fill_int (x : Int) (Z : Array Value) (h : Z.size = 1) : Instr.fill (fun i => some (i * 1, 1)) Z [(0, .int .i64 x)] = some #[.int .i64 x] := by
  have hf := fill_list [.int .i64 x] 0 Z (by simp [h])
  simp [Instr.fill, Value.cells, h]
  simpa using hf

theorem Ints.src {w : World} {v : Value} {l : List Int} (h : Ints w v l) : Src Try.prog 1 22 v l.length (ints l) w := by
  obtain ⟨ao, cap, rfl, hcap, hlen, hnil, hel⟩ := h
  by_cases h0 : l.length = 0
  · have : l = [] := List.eq_nil_of_length_eq_zero h0
    subst this
    cases ao with
    | none => exact Src.ofNil w Try.underlying22 cap
    | some a => exact Src.ofSlice w Try.underlying22 a 0 cap [] rfl (fun j u hu => by simp at hu) (by simp)
  · obtain ⟨_, _, b, o, rfl, _⟩ := hel 0 l[0] (by simp)
    refine Src.ofSlice w Try.underlying22 _ _ _ _ (by simp [ints]) (fun j u hu => ?_) (ints_one l)
    simp only [ints, List.getElem?_map, Option.map_eq_some_iff] at hu
    obtain ⟨x, hx, rfl⟩ := hu
    obtain ⟨_, _, b', o', he, hc⟩ := hel j x hx
    simp at he
    obtain ⟨rfl, rfl⟩ := he
    rw [Addr.add_mid]
    exact hc

theorem Own.base0 {w : World} {b size n : Nat} {e : TypeId} {v : Value} {xs : List Value} (h : w.ownsRow b e size v n xs) : w.ownsRow 0 e size v n xs := by
  refine ⟨h.1, ?_⟩
  rcases h.2 with h | ⟨g, cap, cur, h1, _, h⟩
  · exact .inl h
  · exact .inr ⟨g, cap, cur, h1, Nat.zero_le _, h⟩
set_option maxHeartbeats 1000000 in
theorem RJoin_any (w : World) (v u : Value) (l m : List Int) (h : Ints w v l) (k : Ints w u m) :
    Calls Try.prog 16 #[v, u] w fun e w' => (∃ r, e = .returned (.tuple #[r, .int .i64 (joinV l m).2]) ∧ Ints w' r (joinV l m).1) ∧ Pure w w' := by
  by_cases hf : fitB l m = true
  · have e : joinV l m = (joinL l m, 0) := by rw [joinV, if_pos hf]
    obtain ⟨hl, hl1, hl16⟩ := fitB_len hf
    rw [e]
    have hJ := joinL_in h.in64 k.in64
    have HJ := Lib.hid hJ; clear hJ
    have HF := Lib.hid hf
    clear e hf
    obtain ⟨i3, hi, hiz, hisz, hby⟩ := info_parts Try.infoInt
    go_enter Try.func16, Try.ntmps16
    go_wp2_with fail
    refine (like_any _ _ _ _ _ h k).mono ?_
    rintro e w1 ⟨rfl, rfl⟩
    rw [HF.out]
    obtain ⟨ao, cap, rfl, hcap, hlen, hnil, hel⟩ := h
    obtain ⟨ao2, cap2, rfl, hcap2, hlen2, hnil2, hel2⟩ := k
    rw [← hl] at hcap2
    have hjl := joinL_length hl
    have hjg : ∀ k (h1 : k < l.length) (h2 : k < m.length), (joinL l m)[k]? = some (maxI l[k] m[k]) := fun k h1 h2 => joinL_get h1 h2
    have HL := Lib.hid hl; clear hl
    rw [← HL.out]
    have HEL := Lib.hid hel; clear hel hnil
    have HEL2 := Lib.hid hel2; clear hel2 hnil2 hlen2
    have HJG := Lib.hid hjg; clear hjg
    generalize hje : joinL l m = J at HJ HJG hjl
    have HJE := Lib.hid hje; clear hje
    have HJL := Lib.hid hjl; clear hjl
    go_wp2
    go_loopw [6, 7] (fun s i wr => ∃ k : Nat, k ≤ l.length ∧ i = .int .i64 k ∧ wr.ownsRow w1.heap.size 3 1 s k (ints (J.take k)) ∧ Pure w1 wr) (fun _ i _ => l.length - (intOf i).toNat)
    case atStart => exact ⟨0, by omega, rfl, World.ownsRow_nil _ _ _ _, Turn.refl _ _⟩
    case round =>
      obtain ⟨k, hk, rfl, hown, ht⟩ := hrel
      by_cases hlk : k < l.length
      · have hlk2 : k < m.length := by rw [← HL.out]; exact hlk
        obtain ⟨x1, x2, b, o, rfl, hc0⟩ := HEL.out k l[k] (by simp [hlk])
        obtain ⟨y1, y2, b2, o2, rfl, hc20⟩ := HEL2.out k m[k] (by simp [hlk2])
        have hx := Lib.hid (HJG.out k hlk hlk2)
        generalize l[k] = x at x1 x2 hc0 hx
        generalize m[k] = y at y1 y2 hc20 hx
        clear hlk2
        have hc := ht.cell hc0 (fun e => e)
        have hc2 := ht.cell hc20 (fun e => e)
        have hb1 := World.block_lt_of_cell? w1 _ hc0
        have hb2 := World.block_lt_of_cell? w1 _ hc20
        have hnb : ∀ q, q < w1.heap.size → u6.ownBlock ≠ some q := fun q hq e => by have := hown.lt q e; omega
        have ag := hnb _ hb1
        have ak := hnb _ hb2
        have hsz := ht.size
        have hi0' : (0 : Int) ≤ (k : Int) := Int.natCast_nonneg _
        have hi1 : (k : Int) < (l.length : Int) := by omega
        clear hc0 hc20 hnb
        have HT := Lib.hid ht; clear ht
        go_wp2_with fail
        go_region_held3 (fun w' => w'.cell? ⟨b, o + k, none⟩ = some (.int .i64 x) ∧ w'.cell? ⟨b2, o2 + k, none⟩ = some (.int .i64 y))
          (first
            | go_keep
            | (go_split_ands
               refine ⟨?_, ?_⟩
               · (rw [hgrow.cell_far _ (by simp; omega) (Ne.symm ag)]; assumption)
               · (rw [hgrow.cell_far _ (by simp; omega) (Ne.symm ak)]; assumption)))
          ((refine step_append_lies _ (by rfl) _ _ _ (by rfl) w1.heap.size 3 i3 _ 1 8 Try.underlying22 hi hiz hisz hby rfl (by omega) u6 k (ints (J.take k)) (by rfl) ((hown.alloc _).drew)
              ⟨wr.heap.size, 0, none⟩ 1 1 [.int .i64 (maxI x y)] (by rfl) (by rfl) (World.news_of_block (cs := #[.int .i64 (maxI x y)]) (t := 3) (fr := (0, 0)) (heap_alloc_new wr _)) (by simp [Value.oneCell'])
              (by omega) (by simp only [maxLen]; omega) (by omega) (by simp; omega) (wr.heap.size + 1) (by simp) ?_; intro gg cap3 w3 hown3 hgrow hat hlt))
        have hT3 : Pure w1 w3 := (HT.out.alloc (.cells #[.int .i64 (maxI x y)] 3)).drew.trans ((Turn.refl (fun k => u6.ownBlock = some k) _).grown (row := u6.ownBlock) hgrow (fun _ e _ => e)) fun i hi e => by have := hown.lt i e; omega
        have ho3 : w3.ownsRow w1.heap.size 3 1 (.slice (some ⟨gg, 0, none⟩) (k + 1) cap3) (k + 1) (ints (J.take (k + 1))) := by
          have : ints (J.take (k + 1)) = ints (J.take k) ++ [.int .i64 (maxI x y)] := by rw [List.take_add_one, hx.out, ints_app]; rfl
          rw [this]
          exact hown3
        have HO3 := Lib.hid ho3; clear ho3 hown3 hgrow
        have HT3 := Lib.hid hT3; clear hT3
        go_wp2
        exact ⟨⟨k + 1, by omega, by go_num, HO3.out, HT3.out⟩, by simp [intOf]; omega⟩
      · obtain rfl : k = l.length := by omega
        have hO : Ints wr u6 J := ints_own (n := l.length) (by rw [← HJL.out, List.take_length] at hown; rw [← HJL.out]; exact Own.base0 hown) HJ.out (by rw [HJL.out]; omega)
        go_wp2
        go_ret2
        refine ⟨⟨_, rfl, ?_⟩, ht⟩
        rw [HJE.out]
        exact hO
  · have hf' : fitB l m = false := by simpa using hf
    have e : joinV l m = ([], 1800) := by rw [joinV, if_neg hf]
    rw [e]
    have HF := Lib.hid hf'
    clear e hf hf'
    go_enter Try.func16, Try.ntmps16
    go_wp2_with fail
    refine (like_any _ _ _ _ _ h k).mono ?_
    rintro e w1 ⟨rfl, rfl⟩
    rw [HF.out]
    go_wp2_with fail
    go_ret2
    exact ⟨⟨_, rfl, Ints.nil _⟩, Turn.refl _ _⟩

/-- A lent row: behind it lie two numbers more. -/
def Lent (w : World) (v : Value) (l : List Int) : Prop :=
  ∃ b cap, v = .slice (some ⟨b, 0, none⟩) l.length cap ∧ Ints w (.slice (some ⟨b, 0, none⟩) (l.length + 2) cap) (l ++ [-7777, -8888])
theorem Lent.ints {w : World} {v : Value} {l : List Int} (h : Lent w v l) : Ints w v l := by
  obtain ⟨b, cap, rfl, ao, cap2, h1, h2, h3, _, h4⟩ := h
  simp at h1 h2 h3
  obtain ⟨rfl, rfl⟩ := h1
  refine ⟨_, cap, rfl, by omega, by omega, (fun h => by cases h), fun i x hx => h4 i x ?_⟩
  rw [List.getElem?_append_left (List.getElem?_eq_some_iff.1 hx).1]
  exact hx
theorem Lent.pure {w w' : World} {v : Value} {l : List Int} (h : Lent w v l) (ht : Pure w w') : Lent w' v l := by
  obtain ⟨b, cap, h1, h2⟩ := h
  exact ⟨b, cap, h1, h2.pure ht⟩

set_option maxHeartbeats 1000000 in
theorem CopyInts_any (w : World) (v : Value) (l : List Int) (h : Ints w v l) :
    Calls Try.prog 45 #[v] w fun e w' => ∃ r, e = .returned r ∧ w'.ownsRow 0 3 1 r l.length (ints l) ∧ (∀ k, r.ownBlock = some k → w.heap.size ≤ k) ∧ Pure w w' := by
  obtain ⟨i3, hi, hiz, hisz, hby⟩ := info_parts Try.infoInt
  have hlen := h.len
  have hp : Pure w (w.alloc (.cells #[] 3)) := (Turn.refl _ _).alloc _
  have hs := (h.pure hp).src
  have HS := Lib.hid hs; clear hs
  have ho : (w.alloc (.cells #[] 3)).ownsRow 0 3 1 (.slice (some ⟨w.heap.size, 0, none⟩) 0 0) 0 [] :=
    ⟨rfl, .inr ⟨w.heap.size, 0, #[], rfl, Nat.zero_le _, heap_alloc_new _ _, Nat.le_refl _, by decide, rfl, rfl⟩⟩
  have HO := Lib.hid ho; clear ho
  go_enter Try.func45, Try.ntmps45
  go_wp2_with (refine wpList_append_turn _ rfl _ _ 22 22 3 rfl i3 _ 1 8 Try.underlying22 hi hiz hisz hby rfl _ _ _ rfl HO.out _ rfl l.length _ HS.out (by omega) (by omega) ?_)
  intro ao c w2 ho2 ht2 hb2
  have hT : Pure w w2 := hp.trans ht2 fun i hi e => by have : w.heap.size = i := Option.some.inj e; omega
  have hB : ∀ k, (Value.slice ao l.length c).ownBlock = some k → w.heap.size ≤ k := by
    intro k hk
    rcases hb2.out with e | e
    · have e2 := hk.symm.trans e
      have : k = w.heap.size := Option.some.inj e2
      omega
    · have e2 := hk.symm.trans e
      have := Option.some.inj e2
      omega
  have HT := Lib.hid hT; clear hT ht2 hb2
  have HB := Lib.hid hB; clear hB
  have HO2 := Lib.hid ho2; clear ho2
  go_wp2
  go_ret
  exact ⟨_, rfl, HO2.out, HB.out, HT.out⟩

set_option maxHeartbeats 1000000 in
theorem LendInts_any (w : World) (v : Value) (l : List Int) (h : Ints w v l) (hlen : l.length ≤ 17592186043904) :
    Calls Try.prog 12 #[v] w fun e w' => ∃ r, e = .returned r ∧ Lent w' r l ∧ Pure w w' := by
  obtain ⟨i3, hi, hiz, hisz, hby⟩ := info_parts Try.infoInt
  have h64 := h.in64
  have h64b : In64 (l ++ [-7777, -8888]) := by
    intro i x hx
    rcases List.mem_append.1 (List.mem_of_getElem? hx) with hm | hm
    · obtain ⟨j, hj⟩ := List.getElem?_of_mem hm
      exact h64 j x hj
    · simp at hm
      omega
  have H64 := Lib.hid h64b; clear h64 h64b
  have hh := h
  obtain ⟨ao0, cap0, rfl, hcap0, _, _, _⟩ := hh
  go_enter Try.func12, Try.ntmps12
  go_wp2_with fail
  refine (CopyInts_any _ _ _ h).mono ?_
  rintro e w1 ⟨r, rfl, ho1, hb1, ht1⟩
  have hA : Pure w1 (w1.alloc (.cells #[.int .i64 (-7777), .int .i64 (-8888)] 3)) := (Turn.refl _ _).alloc _
  have ho2 := hA.own ho1 (fun _ _ e => e)
  have hs : Src Try.prog 1 22 (.slice (some ⟨w1.heap.size, 0, none⟩) 2 2) 2 (ints [-7777, -8888]) (w1.alloc (.cells #[.int .i64 (-7777), .int .i64 (-8888)] 3)) :=
    Src.ofSlice _ Try.underlying22 _ _ _ _ rfl (fun j u hu => by rw [Addr.add_mid, Nat.zero_add, World.cell?_alloc_new]; simpa [ints] using hu) (ints_one _)
  have HS := Lib.hid hs; clear hs
  have HO := Lib.hid ho2; clear ho2 ho1
  have HA := Lib.hid (ht1.pure hA)
  have HB := Lib.hid hb1; clear hb1
  have HT := Lib.hid ht1; clear ht1 hA
  clear h
  go_wp2_with (at_builtin; refine wpList_append_turn _ rfl _ _ 22 22 3 rfl i3 _ 1 8 Try.underlying22 hi hiz hisz hby rfl _ _ _ rfl HO.out _ rfl 2 _ HS.out (by omega) (by omega) ?_)
  intro ao c w2 ho2 ht2 hb2
  have hT : Pure w w2 := HA.out.trans ht2 fun i hi e => by have := HB.out i e; omega
  rw [← ints_app] at ho2
  have hI : Ints w2 (.slice ao (l.length + 2) c) (l ++ [-7777, -8888]) := ints_own ho2 H64.out (by simp; omega)
  have hgc : ∃ b, ao = some ⟨b, 0, none⟩ ∧ l.length + 2 ≤ c := by
    rcases ho2.2 with ⟨e, h0⟩ | ⟨g, cap, cur, e, _, _, hn, _⟩
    · omega
    · simp at e
      obtain ⟨rfl, rfl⟩ := e
      exact ⟨g, rfl, hn⟩
  obtain ⟨b, rfl, hc⟩ := hgc
  have HI := Lib.hid hI; clear hI ho2 ht2 hb2
  have HT2 := Lib.hid hT; clear hT
  go_wp2
  go_ret
  refine ⟨_, rfl, ⟨b, c, ?_, HI.out⟩, HT2.out⟩
  rfl

set_option maxHeartbeats 1000000 in
theorem KeptInts_any (w : World) (v u : Value) (l : List Int) (h : Lent w v l) (k : Ints w u l) :
    Calls Try.prog 23 #[v, u] w fun e w' => e = .returned (.bool true) ∧ Pure w w' := by
  have hI := h.ints
  have hlen := hI.len
  obtain ⟨b, cap, rfl, h2⟩ := h
  have kk := k
  obtain ⟨ao2, cap2, rfl, hcap2, hlen2, _, _⟩ := kk
  obtain ⟨_, cap3, he, hc3, _, _, hel⟩ := h2
  simp at he hc3
  obtain ⟨rfl, rfl⟩ := he
  obtain ⟨_, _, b1, o1, e1, c1⟩ := hel l.length (-7777) (by simp)
  obtain ⟨_, _, b2, o2, e2, c2⟩ := hel (l.length + 1) (-8888) (by simp)
  simp at e1 e2
  obtain ⟨rfl, rfl⟩ := e1
  obtain ⟨rfl, rfl⟩ := e2
  clear hel
  have hi1 : ((l.length : Int)).toNat = l.length := by omega
  have hi2 : ((l.length : Int) + 1).toNat = l.length + 1 := by omega
  have hi3 : ((l.length : Int) + 2).toNat = l.length + 2 := by omega
  go_enter Try.func23, Try.ntmps23
  rw [Nat.zero_add] at c1 c2
  go_wp2_with fail
  refine (Same_any _ _ _ _ _ hI k).mono ?_
  rintro e w1 ⟨rfl, ht1⟩
  rw [decide_eq_true rfl]
  have d1 := ht1.cell c1 (fun e => e)
  have d2 := ht1.cell c2 (fun e => e)
  clear c1 c2
  go_wp2
  go_ret
  exact ⟨rfl, ht1⟩
end Go.Proofs.Ytjingpkgappblaa
