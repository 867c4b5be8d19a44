/- Rows of numbers: made, owned, compared. -/
import Derived.Test.YtigkmdjdnkbdkaaVec0
import Derived.Test.YtigkmdjdnkbdkaaSeq
namespace Go.Proofs.Ytigkmdjdnkbdkaa
open Go.RowKit

def ints (l : List Int) : List Value := l.map fun x => .int .i64 x
theorem ints_length (l : List Int) : (ints l).length = l.length := by simp [ints]
theorem ints_one (l : List Int) : ∀ u ∈ ints l, u.oneCell' = true := by
  intro u hu
  obtain ⟨b, _, rfl⟩ := List.mem_map.1 hu
  rfl
theorem ints_app (a b : List Int) : ints (a ++ b) = ints a ++ ints b := by simp [ints]
def In64 (l : List Int) : Prop := ∀ (i : Nat) (x : Int), l[i]? = some x → -9223372036854775808 ≤ x ∧ x ≤ 9223372036854775807
theorem Ints.in64 {w : World} {v : Value} {l : List Int} (h : Ints w v l) : In64 l := by
  obtain ⟨_, _, _, _, _, _, h⟩ := h
  exact fun i x hx => ⟨(h i x hx).1, (h i x hx).2.1⟩
theorem ints_own {w : World} {v : Value} {l : List Int} {n : Nat} (h : w.ownsRow 0 3 1 v n (ints l)) (h1 : In64 l) (h2 : l.length ≤ 17592186044416) : Ints w v l := by
  have hn : l.length = n := by simpa [ints] using h.1
  subst hn
  rcases h.2 with ⟨rfl, h0⟩ | ⟨g, cap, cur, rfl, _, hg, hc, hm, hs, ht⟩
  · refine ⟨none, 0, by rw [h0], by omega, h2, fun _ => rfl, fun i x hx => ?_⟩
    have : l = [] := List.eq_nil_of_length_eq_zero h0
    subst this
    simp at hx
  · refine ⟨_, cap, rfl, hc, h2, (fun h => by cases h), fun i x hx => ⟨(h1 i x hx).1, (h1 i x hx).2, g, 0, rfl, ?_⟩⟩
    have := h.cells (g := g) rfl i (.int .i64 x) (by simp [ints, hx])
    rwa [Addr.add_mid] at this
theorem ints_block {w : World} {g : Nat} {T : TypeId} {fr : Nat × Nat} {l : List Int} {cap : Nat} (h : w.heap[g]? = some (.cells (ints l).toArray T fr)) (hc : l.length ≤ cap) (h1 : In64 l) (h2 : l.length ≤ 17592186044416) : Ints w (.slice (some ⟨g, 0, none⟩) l.length cap) l := by
  refine ⟨_, cap, rfl, hc, h2, (fun h => by cases h), fun i x hx => ⟨(h1 i x hx).1, (h1 i x hx).2, g, 0, rfl, ?_⟩⟩
  rw [Nat.zero_add, cell_of_row w g i _ _ _ h]
  simp [ints, hx]

theorem Try.infoInt : (Try.prog.info? 3).map (fun i => (i.zero, i.size, i.bytes)) = some (some (.int .i64 0), 1, 8) := by kernel_rfl
theorem made_int (n : Nat) : madeCells #[Value.int .i64 0] n = (ints (List.replicate n 0)).toArray := by
  apply Array.toList_inj.1
  simp only [madeCells, ints, Array.toList_map, List.map_replicate]
  apply List.ext_getElem
  · simp
  · intro i h1 h2
    simp [Nat.mod_one]
theorem make_int (w : World) (n : Nat) (hn : n ≤ 109951162777) :
    (Instr.makeSlice 43 (.int .i64 n) (.int .i64 n)).run Try.prog w = .ok (.slice (some ⟨w.heap.size, 0, none⟩) n n) (w.alloc (.cells (ints (List.replicate n 0)).toArray 3)) := by
  obtain ⟨i, hi, h1, h2, h3⟩ := info_parts Try.infoInt
  have := run_make (P := Try.prog) w 43 3 i (.int .i64 0) Try.underlying43 hi h1 .i64 .i64 n n (by omega) (by omega) (by rw [h3]; omega) (by omega)
  rw [this, h2]
  simp [Value.cells, made_int]

set_option maxHeartbeats 1000000 in
theorem Same_any (w : World) (v u : Value) (l m : List Int) (h : Ints w v l) (k : Ints w u m) :
    Calls Try.prog 67 #[v, u] w fun e w' => e = .returned (.bool (decide (l = m))) ∧ Pure w w' := by
  obtain ⟨ao, cap, rfl, hcap, hlen, hnil, hel⟩ := h
  obtain ⟨ao2, cap2, rfl, hcap2, hlen2, hnil2, hel2⟩ := k
  by_cases hl : l.length = m.length
  · rw [← hl] at hcap2
    have HL := Lib.hid hl; clear hl
    rw [← HL.out]
    have HEL := Lib.hid hel; clear hel hnil
    have HEL2 := Lib.hid hel2; clear hel2 hnil2 hlen2
    go_enter Try.func67, Try.ntmps67
    go_wp2
    go_loopw [5] (fun i wr => ∃ k : Nat, k ≤ l.length ∧ i = .int .i64 k ∧ Hid (l.take k = m.take k) ∧ ∃ q, wr = w.drewN q) (fun i _ => l.length - (intOf i).toNat)
    case atStart => exact ⟨0, by omega, rfl, Lib.hid (by simp), 0, rfl⟩
    case round =>
      obtain ⟨k, hk, rfl, HA, q, rfl⟩ := hrel
      by_cases hlk : k < l.length
      · have hlk2 : k < m.length := by rw [← HL.out]; exact hlk
        obtain ⟨x1, x2, b, o, rfl, hc⟩ := HEL.out k l[k] (by simp [hlk])
        obtain ⟨y1, y2, b2, o2, rfl, hc2⟩ := HEL2.out k m[k] (by simp [hlk2])
        have hx := Lib.hid (show l[k]? = some l[k] by simp [hlk])
        have hy := Lib.hid (show m[k]? = some m[k] by simp [hlk2])
        generalize l[k] = x at x1 x2 hc hx
        generalize m[k] = y at y1 y2 hc2 hy
        clear hlk2
        by_cases hp : x = y
        · have hd : (x == y) = true := by simpa using hp
          have hd2 : (x != y) = false := by simpa using hp
          have HP := Lib.hid hp; clear hp
          go_wp2_with fail
          go_quiet (fail)
          go_wp2
          refine ⟨⟨k + 1, by omega, by go_num, Lib.hid ?_, _, rfl⟩, by simp [intOf]; omega⟩
          rw [List.take_add_one, List.take_add_one, HA.out, hx.out, hy.out, HP.out]
        · have hd : (x == y) = false := by simpa using hp
          have hd2 : (x != y) = true := by simpa using hp
          have HP := Lib.hid hp; clear hp
          go_wp2_with fail
          go_quiet (fail)
          go_wp2
          go_ret
          refine ⟨?_, ((Turn.refl _ _).drewN q).drewN nq⟩
          have : ¬ l = m := by
            rintro rfl
            have := hx.out.symm.trans hy.out
            exact HP.out (by simpa using this)
          simp [this]
      · obtain rfl : k = l.length := by omega
        have hall := HA.out
        rw [List.take_length, HL.out, List.take_length] at hall
        go_wp2
        go_ret
        exact ⟨by simp [hall], (Turn.refl _ _).drewN q⟩
  · have hd : ((l.length : Int) != (m.length : Int)) = true := by simp; omega
    have hne : ¬ l = m := fun e => hl (by rw [e])
    have HN := Lib.hid hne; clear hne hl hel hel2 hnil hnil2
    go_enter Try.func67, Try.ntmps67
    go_wp2
    go_ret
    exact ⟨by simp [HN.out], Turn.refl _ _⟩

theorem fill_int (x : Int) (Z : Array Value) (h : Z.size = 1) : Instr.fill (fun i => some (i * 1, 1)) Z [(0, .int .i64 x)] = some #[.int .i64 x] := by
  have hf := fill_list [.int .i64 x] 0 Z (by simp [h])
  simp [Instr.fill, Value.cells, h]
  simpa using hf

theorem Ints.src {w : World} {v : Value} {l : List Int} (h : Ints w v l) : Src Try.prog 1 43 v l.length (ints l) w := by
  obtain ⟨ao, cap, rfl, hcap, hlen, hnil, hel⟩ := h
  by_cases h0 : l.length = 0
  · have : l = [] := List.eq_nil_of_length_eq_zero h0
    subst this
    cases ao with
    | none => exact Src.ofNil w Try.underlying43 cap
    | some a => exact Src.ofSlice w Try.underlying43 a 0 cap [] rfl (fun j u hu => by simp at hu) (by simp)
  · obtain ⟨_, _, b, o, rfl, _⟩ := hel 0 l[0] (by simp)
    refine Src.ofSlice w Try.underlying43 _ _ _ _ (by simp [ints]) (fun j u hu => ?_) (ints_one l)
    simp only [ints, List.getElem?_map, Option.map_eq_some_iff] at hu
    obtain ⟨x, hx, rfl⟩ := hu
    obtain ⟨_, _, b', o', he, hc⟩ := hel j x hx
    simp at he
    obtain ⟨rfl, rfl⟩ := he
    rw [Addr.add_mid]
    exact hc

theorem Own.base0 {w : World} {b size n : Nat} {e : TypeId} {v : Value} {xs : List Value} (h : w.ownsRow b e size v n xs) : w.ownsRow 0 e size v n xs := by
  refine ⟨h.1, ?_⟩
  rcases h.2 with h | ⟨g, cap, cur, h1, _, h⟩
  · exact .inl h
  · exact .inr ⟨g, cap, cur, h1, Nat.zero_le _, h⟩
end Go.Proofs.Ytigkmdjdnkbdkaa
