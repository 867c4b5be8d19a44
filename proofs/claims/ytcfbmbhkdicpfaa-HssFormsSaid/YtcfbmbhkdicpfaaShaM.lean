/- The program's digest: bytes written. The program's digest: New, Sum. -/
import Derived.Test.YtcfbmbhkdicpfaaSha0
import Derived.Test.YtcfbmbhkdicpfaaShaT
import Derived.Deep.AppendSrc
import Derived.Deep.DeepCutAuto
import Derived.Deep.RegionHeld3
namespace Go.Proofs.Ytcfbmbhkdicpfaa
open Go.RowKit

/-- The cells of a digest under way. -/
def digC (h : V8) (v : Value) (a : Nat) : List Value := uws h.list ++ [v, .int .i64 (a : Int)]
theorem dig_set8 (h : V8) (v v' : Value) (a : Nat) : (digC h v a).toArray.setIfInBounds 8 v' = (digC h v' a).toArray := by cases h; rfl
theorem dig_set9 (h : V8) (v : Value) (a b : Nat) : (digC h v a).toArray.setIfInBounds 9 (.int .i64 (b : Int)) = (digC h v b).toArray := by cases h; rfl
theorem dig_rest {w : World} {g : Nat} {h : V8} {v : Value} {a : Nat} {T : TypeId} (hg : w.heap[g]? = some (.cells (digC h v a).toArray T (0, 0))) : w.cell? ⟨g, 8, none⟩ = some v := by
  rw [cell_of_row w g 8 _ _ _ hg]; cases h; rfl
theorem dig_all {w : World} {g : Nat} {h : V8} {v : Value} {a : Nat} {T : TypeId} (hg : w.heap[g]? = some (.cells (digC h v a).toArray T (0, 0))) : w.cell? ⟨g, 9, none⟩ = some (.int .i64 (a : Int)) := by
  rw [cell_of_row w g 9 _ _ _ hg]; cases h; rfl

/-- A digest under way: its words, what is left of a block, how many bytes were written. -/
structure Dig (w : World) (g : Nat) (h : V8) (v : Value) (r : List UInt8) (a : Nat) : Prop where
  at_ : w.heap[g]? = some (.cells (digC h v a).toArray 222 (0, 0))
  own : w.ownsRow 0 5 1 v r.length (u8s r)
  ne : v.ownBlock ≠ some g

set_option maxRecDepth 100000 in
set_option maxHeartbeats 1000000 in
theorem Write_any (w : World) (g : Nat) (h8 : V8) (v : Value) (r : List UInt8) (a : Nat) (s : List UInt8) (hd : Dig w g h8 v r a) (hb : r.length + s.length ≤ 140737488355328) (ha : a ≤ 140737488355328) :
    Calls Try.prog 129 #[.pointer (some ⟨g, 0, none⟩), .string (bstr s)] w fun e w' => e = .returned (.tuple #[]) ∧
      ∃ v', Dig w' g (blocksV h8 (r ++ s) ((r ++ s).length / 64)) v' (restOf (r ++ s)) (a + s.length) ∧ (∀ k, v'.ownBlock = some k → w.heap.size ≤ k) ∧ Turn (fun k => k = g ∨ v.ownBlock = some k) w w' := by
  have hz := bstr_size s
  have hgl : g < w.heap.size := (Array.getElem?_eq_some_iff.1 hd.at_).1
  obtain ⟨a2, ha2⟩ : ∃ a2, a2 = a + s.length := ⟨_, rfl⟩
  have hwr : IntKind.i64.wrap ((a : Int) + (s.length : Int)) = (a2 : Int) := by rw [IntWalk.i64_in _ (by omega)]; omega
  have c9 := dig_all hd.at_
  have f9 := frozen_of_row w g 9 _ _ hd.at_
  have f8 := frozen_of_row w g 8 _ _ hd.at_
  have T1 : Turn (fun k => k = g) w (w.setCell ⟨g, 9, none⟩ (.int .i64 (a2 : Int))) := (Turn.refl (fun k => k = g) w).setCell (fun _ => rfl) _
  have G1 : (w.setCell ⟨g, 9, none⟩ (.int .i64 (a2 : Int))).heap[g]? = some (.cells (digC h8 v a2).toArray 222 (0, 0)) := (heap_set_cell hd.at_).trans (by rw [dig_set9])
  have c8 := dig_rest G1
  have O1 := Lib.hid (T1.own hd.own (fun k hk e => hd.ne (by rw [hk, e])))
  have HD := Lib.hid hd; clear hd
  have HG1 := Lib.hid G1
  have HT1 := Lib.hid T1
  clear G1 T1
  have HA := Lib.hid ha2; clear ha2
  rw [← HA.out]
  obtain ⟨i5, hi, hiz, hsz, hby⟩ := info_parts Try.infoU8S
  have hsrc : ∀ W, Src Try.prog 1 9 (.string (bstr s)) s.length (u8s s) W := fun W => by
    have := Src.ofString (P := Try.prog) W (tx := 9) Try.underlying9 (bstr s)
    rwa [bstr_size, byteCells_u8s, bstr_data] at this
  have HS := Lib.hid hsrc; clear hsrc
  go_enter Try.func129, Try.ntmps129
  go_wp2_with (at_builtin; refine wpList_append_turn _ rfl _ _ 65 9 5 rfl i5 _ 1 1 Try.underlying65 hi hiz hsz hby rfl v _ _ rfl O1.out _ rfl s.length _ (HS.out _) ?_ ?_ ?_)
  case refine_1 => omega
  case refine_2 => omega
  intro ao c w2 hown2 ht2 hb2
  have hne : (Value.slice ao (r.length + s.length) c).ownBlock ≠ some g := by
    rcases hb2.out with e | e
    · rw [e]; exact HD.out.ne
    · rw [e]; intro h; have := Option.some.inj h; omega
  have G2 := ht2.obj HG1.out (fun e => HD.out.ne e)
  have T2 : Turn (fun k => k = g ∨ v.ownBlock = some k) w w2 := (HT1.out.mono fun _ _ e => .inl e).trans ht2 fun i hi e => .inr e
  have c82 := dig_rest G2
  have f82 := frozen_of_row w2 g 8 _ _ G2
  have hlow : ∀ k, (Value.slice ao (r.length + s.length) c).ownBlock = some k → v.ownBlock = some k ∨ w.heap.size ≤ k := by
    intro k hk
    rcases hb2.out with e | e
    · left; rw [← e]; exact hk
    · right; rw [e] at hk; have := Option.some.inj hk; omega
  have hbs : u8s r ++ u8s s = u8s (r ++ s) := by simp [u8s]
  rw [hbs] at hown2
  have hnl : r.length + s.length = (r ++ s).length := by rw [List.length_append]
  rw [hnl] at hown2 hne hlow hb ⊢
  generalize hts : r ++ s = t at hown2 hb hne hlow ⊢
  have HTS := Lib.hid hts; clear hts
  generalize hSL : Value.slice ao t.length c = sl at hown2 hne hlow
  have T3 : Turn (fun k => k = g ∨ v.ownBlock = some k) w (w2.setCell ⟨g, 8, none⟩ (.slice ao t.length c)) := T2.setCell (fun _ => .inl rfl) _
  have G3 : (w2.setCell ⟨g, 8, none⟩ (.slice ao t.length c)).heap[g]? = some (.cells (digC h8 sl a2).toArray 222 (0, 0)) := (heap_set_cell G2).trans (by rw [dig_set8, hSL])
  have O3 : (w2.setCell ⟨g, 8, none⟩ (.slice ao t.length c)).ownsRow 0 5 1 sl t.length (u8s t) := ((Turn.refl (fun k => k = g) w2).setCell (fun _ => rfl) _).own hown2 (fun k hk e => hne (by rw [hk, e]))
  subst hSL
  have HT3 := Lib.hid T3; have HG3 := Lib.hid G3; have HO3 := Lib.hid O3
  have HNE := Lib.hid hne; have HLOW := Lib.hid hlow; have HWR := Lib.hid hwr
  clear hown2 ht2 hb2 G2 T2 hbs hnl O1 HG1 HT1 hne hlow hwr c8 c9 f8 f9 T3 G3 O3
  rcases HO3.out.2 with ⟨h0, hn0⟩ | ⟨gb, cap, cur, hsl, _, hgb, hnc, hcm, hcs, htake⟩
  · have hao : ao = none ∧ c = 0 := by
      have := h0
      simp only [Value.slice.injEq] at this
      exact ⟨this.1, this.2.2⟩
    obtain ⟨rfl, rfl⟩ := hao
    have ht0 : t = [] := List.eq_nil_of_length_eq_zero hn0
    subst ht0
    simp only [List.length_nil] at *
    go_wp2_with fail
    generalize w2.setCell ⟨g, 8, none⟩ (.slice none 0 0) = w3 at *
    clear c82 f82
    go_loopw [4] (fun i wr => i = .int .i64 0 ∧ wr = w3) (fun i _ => 0)
    case atStart => exact ⟨rfl, rfl⟩
    case round =>
      obtain ⟨rfl, rfl⟩ := hrel
      have c8 := dig_rest HG3.out
      have f8 := frozen_of_row _ g 8 _ _ HG3.out
      have hsrc : Src Try.prog 1 65 (.slice none 0 0) 0 [] wr := Src.ofNil wr Try.underlying65 0
      have HSRC := Lib.hid hsrc; clear hsrc
      have hgw : g < wr.heap.size := (Array.getElem?_eq_some_iff.1 HG3.out).1
      go_wp2_with (at_builtin; refine wpList_append_turn _ rfl _ _ 65 65 5 rfl i5 _ 1 1 Try.underlying65 hi hiz hsz hby rfl (.slice none 0 0) _ _ rfl (World.ownsRow_nil _ _ _ _) _ rfl 0 _ HSRC.out ?_ ?_ ?_)
      all_goals first | omega | skip
      intro ao2 c2 w5 hown5 ht5 hb5
      have hpt : Pure wr w5 := ht5.mono fun k _ e => by simp [Value.ownBlock] at e
      have G5 := hpt.obj HG3.out (fun e => e)
      have c85 := dig_rest G5
      have f85 := frozen_of_row w5 g 8 _ _ G5
      have hwl : w.heap.size ≤ wr.heap.size := HT3.out.size
      have hnew : ∀ k, (Value.slice ao2 0 c2).ownBlock = some k → k = wr.heap.size := by
        intro k hk
        rcases hb5.out with e | e
        · rw [e] at hk; simp [Value.ownBlock] at hk
        · rw [e] at hk; exact (Option.some.inj hk).symm
      have T6 : Turn (fun k => k = g ∨ v.ownBlock = some k) w (w5.setCell ⟨g, 8, none⟩ (.slice ao2 0 c2)) := (HT3.out.pure hpt).setCell (fun _ => .inl rfl) _
      have G6 : (w5.setCell ⟨g, 8, none⟩ (.slice ao2 0 c2)).heap[g]? = some (.cells (digC h8 (.slice ao2 0 c2) a2).toArray 222 (0, 0)) := (heap_set_cell G5).trans (by rw [dig_set8])
      have O6 : (w5.setCell ⟨g, 8, none⟩ (.slice ao2 0 c2)).ownsRow 0 5 1 (.slice ao2 0 c2) (restOf []).length (u8s (restOf [])) :=
        ((Turn.refl (fun k => k = g) w5).setCell (fun _ => rfl) _).own hown5 (fun k hk e => by have := hnew k hk; omega)
      have hD6 : Dig (w5.setCell ⟨g, 8, none⟩ (.slice ao2 0 c2)) g h8 (.slice ao2 0 c2) (restOf []) a2 := ⟨G6, O6, fun e => by have := hnew g e; omega⟩
      have HFIN := Lib.hid (And.intro hD6 (And.intro (fun k (hk : (Value.slice ao2 0 c2).ownBlock = some k) => (by have := hnew k hk; omega : w.heap.size ≤ k)) T6))
      clear hD6 O6 G6 T6 hnew hgw G5 hpt hb5 ht5 hown5 c8 f8
      go_wp2
      try simp only [Exit.inBlock, Exit.then]
      exact bodyPost_end (results_none rfl _ _ _) rfl ⟨rfl, _, by rw [HTS.out]; exact HFIN.out⟩
  · obtain ⟨rfl, rfl⟩ : ao = some ⟨gb, 0, none⟩ ∧ c = cap := by simpa using hsl
    have hgg : gb ≠ g := fun e => HNE.out (by rw [e]; rfl)
    clear hsl hgb hcs htake
    go_wp2_with fail
    generalize w2.setCell ⟨g, 8, none⟩ (.slice (some ⟨gb, 0, none⟩) t.length c) = w3 at *
    clear c82 f82
    have hbytes : w3.rangeAt gb 0 (u8s t) := by
      intro j u hj
      have := HO3.out.cells (g := gb) rfl j u hj
      rwa [Addr.add_mid] at this
    have HBY := Lib.hid hbytes; clear hbytes
    obtain ⟨n, hn⟩ : ∃ n, n = t.length / 64 := ⟨_, rfl⟩
    have HN := Lib.hid hn; clear hn
    go_loopw [4] (fun i wr => ∃ k p : Nat, k ≤ n ∧ p = 64 * k ∧ i = .int .i64 (p : Int) ∧ Hid (wr.heap[g]? = some (.cells (digC (blocksV h8 t k) (.slice (some ⟨gb, 0, none⟩) t.length c) a2).toArray 222 (0, 0))) ∧ Turn (fun b => b = g) w3 wr) (fun i _ => t.length - (intOf i).toNat)
    case atStart => exact ⟨0, 0, by omega, rfl, rfl, HG3, Turn.refl _ _⟩
    case round =>
      obtain ⟨k, p, hk, hp, rfl, HC, ht⟩ := hrel
      have hn := HN.out
      have c8 := dig_rest HC.out
      obtain ⟨m, hm⟩ : ∃ m, m = t.length - p := ⟨_, rfl⟩
      have hpl : p ≤ t.length := by omega
      have hw : IntKind.i64.wrap ((t.length : Int) - p) = (m : Int) := by rw [IntWalk.i64_in _ (by omega)]; omega
      by_cases hlk : k < n
      · have q1 : (64 : Int) ≤ m := by omega
        have q2 : (0 : Int) ≤ p := by omega
        have q4 : IntKind.i64.wrap ((p : Int) + 64) = p + 64 := IntWalk.i64_in _ (by omega)
        have q5 : ((p : Int) + 64).toNat = p + 64 := by omega
        have q6 : (0 : Int) ≤ (p : Int) + 64 := by omega
        have q7 : (p : Int) ≤ (p : Int) + 64 := by omega
        have q8 : (p : Int) + 64 ≤ (c : Int) := by omega
        have hbl : (blockAt t k).length = 64 := blockAt_length (by omega)
        have hblk : blocksV h8 t (k + 1) = blockV (blocksV h8 t k) (blockAt t k) := rfl
        have hrg : wr.rangeAt gb p (u8s (blockAt t k)) := by
          intro j u hj
          have hj64 : j < 64 := by have := (List.getElem?_eq_some_iff.1 hj).1; rw [u8s_length, hbl] at this; exact this
          have h2 : (u8s t)[p + j]? = some u := by
            rw [← hj, hp, u8s, u8s, blockAt, List.getElem?_map, List.getElem?_map, List.getElem?_take, if_pos hj64, List.getElem?_drop]
          have := ht.cell (HBY.out (p + j) u h2) (fun e => hgg e)
          rwa [Nat.zero_add] at this
        have HB := Lib.hid (And.intro hbl hblk); clear hbl hblk
        have HRG := Lib.hid hrg; clear hrg
        have HJ := Lib.hid (And.intro hp (And.intro hk (And.intro hlk (And.intro hn hm)))); clear hp hk hlk hn hm
        go_wp2_with fail
        refine (turn_any wr g (blocksV h8 t k) [.slice (some ⟨gb, 0, none⟩) t.length c, .int .i64 (a2 : Int)] (blockAt t k) HB.out.1 gb p (c - p) HRG.out HC.out).mono ?_
        rintro e w4 ⟨rfl, t4, c4⟩
        rw [← HB.out.2] at c4
        have HC4 : Hid (w4.heap[g]? = some (.cells (digC (blocksV h8 t (k + 1)) (.slice (some ⟨gb, 0, none⟩) t.length c) a2).toArray 222 (0, 0))) := Lib.hid c4
        have T4 := Lib.hid (ht.trans t4 fun _ _ e => e)
        clear c4 t4 c8
        go_wp2
        exact ⟨⟨k + 1, p + 64, by have := HJ.out; omega, by have := HJ.out; omega, by go_num, HC4, T4.out⟩, by have := HJ.out; simp [intOf]; omega⟩
      · obtain rfl : k = n := by omega
        have q1 : ¬ ((64 : Int) ≤ m) := by omega
        have q2 : (0 : Int) ≤ p := by omega
        have q3 : (p : Int) ≤ (t.length : Int) := by omega
        have hdrop : restOf t = t.drop p := by rw [restOf, hp, ← hn]
        have hrl := restOf_length t
        obtain ⟨x, hsrc, hif⟩ : ∃ x, Src Try.prog 1 65 (.slice (some ⟨gb, x, none⟩) (t.length - p) (c - p)) (t.length - p) (u8s (restOf t)) wr ∧ (if c = p then (some (⟨gb, 0, none⟩ : Addr)) else some ⟨gb, p, none⟩) = some ⟨gb, x, none⟩ := by
          by_cases hcp : c = p
          · refine ⟨0, Src.ofSlice wr Try.underlying65 _ _ _ _ (by rw [u8s_length, hdrop, List.length_drop]; omega) (fun j u hj => ?_) (u8s_one _), by rw [if_pos hcp]⟩
            have := (List.getElem?_eq_some_iff.1 hj).1
            rw [u8s_length, hdrop, List.length_drop] at this
            omega
          · refine ⟨p, Src.ofSlice wr Try.underlying65 _ _ _ _ (by rw [u8s_length, hdrop, List.length_drop]; omega) (fun j u hj => ?_) (u8s_one _), by rw [if_neg hcp]⟩
            rw [Addr.add_mid]
            have h2 : (u8s t)[p + j]? = some u := by
              rw [← hj, hdrop, u8s, u8s, List.getElem?_map, List.getElem?_map, List.getElem?_drop]
            have := ht.cell (HBY.out (p + j) u h2) (fun e => hgg e)
            rwa [Nat.zero_add] at this
        have HSRC := Lib.hid hsrc; clear hsrc
        have hpm : t.length - p = (restOf t).length := by rw [hdrop, List.length_drop]
        have f8 := frozen_of_row wr g 8 _ _ HC.out
        have T5 : Hid (Turn (fun k => k = g ∨ v.ownBlock = some k) w wr) := Lib.hid (HT3.out.trans ht fun _ _ e => .inl e)
        have hwl : w.heap.size ≤ wr.heap.size := T5.out.size
        have hle : t.length - p ≤ 140737488355328 := by omega
        have HJ := Lib.hid (And.intro hp (And.intro hn (And.intro hm (And.intro hdrop hrl)))); clear hp hn hm hk hlk ht hdrop hrl
        have HPM := Lib.hid hpm; clear hpm
        go_wp2_with (at_builtin; refine wpList_append_turn _ rfl _ _ 65 65 5 rfl i5 _ 1 1 Try.underlying65 hi hiz hsz hby rfl (.slice none 0 0) _ _ rfl (World.ownsRow_nil _ _ _ _) _ rfl (t.length - p) _ HSRC.out ?_ ?_ ?_)
        case refine_1 => omega
        intro ao2 c2 w5 hown5 ht5 hb5
        have hpt : Pure wr w5 := ht5.mono fun k _ e => by simp [Value.ownBlock] at e
        have G5 := hpt.obj HC.out (fun e => e)
        have c85 := dig_rest G5
        have f85 := frozen_of_row w5 g 8 _ _ G5
        have hgw : g < wr.heap.size := (Array.getElem?_eq_some_iff.1 HC.out).1
        have hnew : ∀ k, (Value.slice ao2 (t.length - p) c2).ownBlock = some k → k = wr.heap.size := by
          intro k hk
          rcases hb5.out with e | e
          · rw [e] at hk; simp [Value.ownBlock] at hk
          · rw [e] at hk; exact (Option.some.inj hk).symm
        have T6 : Turn (fun k => k = g ∨ v.ownBlock = some k) w (w5.setCell ⟨g, 8, none⟩ (.slice ao2 (t.length - p) c2)) := (T5.out.pure hpt).setCell (fun _ => .inl rfl) _
        have G6 : (w5.setCell ⟨g, 8, none⟩ (.slice ao2 (t.length - p) c2)).heap[g]? = some (.cells (digC (blocksV h8 t k) (.slice ao2 (t.length - p) c2) a2).toArray 222 (0, 0)) := (heap_set_cell G5).trans (by rw [dig_set8])
        have O6 : (w5.setCell ⟨g, 8, none⟩ (.slice ao2 (t.length - p) c2)).ownsRow 0 5 1 (.slice ao2 (t.length - p) c2) (restOf t).length (u8s (restOf t)) := by
          rw [← HPM.out]
          exact ((Turn.refl (fun k => k = g) w5).setCell (fun _ => rfl) _).own hown5 (fun k hk e => by have := hnew k hk; omega)
        have hD6 : Dig (w5.setCell ⟨g, 8, none⟩ (.slice ao2 (t.length - p) c2)) g (blocksV h8 t k) (.slice ao2 (t.length - p) c2) (restOf t) a2 := ⟨G6, O6, fun e => by have := hnew g e; omega⟩
        have HFIN := Lib.hid (And.intro hD6 (And.intro (fun k (hk : (Value.slice ao2 (t.length - p) c2).ownBlock = some k) => (by have := hnew k hk; omega : w.heap.size ≤ k)) T6))
        clear hD6 O6 G6 T6 hnew hgw G5 hpt hb5 ht5 hown5 hif c8 f8 hw
        go_wp2
        try simp only [Exit.inBlock, Exit.then]
        have hk2 : blocksV h8 t (t.length / 64) = blocksV h8 t k := by rw [HJ.out.2.1]
        exact bodyPost_end (results_none rfl _ _ _) rfl ⟨rfl, _, by rw [HTS.out, hk2]; exact HFIN.out⟩

set_option maxHeartbeats 400000 in
theorem New_any (w : World) :
    Calls Try.prog 127 #[] w fun e w' => ∃ g, e = .returned (.pointer (some ⟨g, 0, none⟩)) ∧ Dig w' g shaH0 (.slice none 0 0) [] 0 ∧ w.heap.size ≤ g ∧ Pure w w' := by
  go_enter Try.func127, Try.ntmps127
  go_wp2
  go_ret
  refine ⟨w.heap.size, rfl, ⟨heap_alloc_new w _, World.ownsRow_nil _ _ _ _, by simp [Value.ownBlock]⟩, Nat.le_refl _, (Turn.refl _ w).alloc _⟩

/-- 'append' in a region that draws its order. -/
theorem step_append_turn {P : Program} {w : World} {ops : Array Oper} {o : Oper} {a : Act} {K : Act → World → Prop} {Q : Exit → Act → World → Prop} {E : Prop} (hgd : o.guard = none) (sl x : Operand) (t tx e : TypeId)
    (ho : o.op = .call { callee := .builtin .append, args := #[sl, x], argTypes := #[t, tx] }) (i : TypeInfo) (z : Value) (size bytes : Nat) (ht : P.underlying t = some (.slice e)) (hi : P.info? e = some i) (hz : i.zero = some z)
    (hsize : i.size = size) (hby : i.bytes = bytes) (hzs : z.cells.size = size) (v : Value) (n : Nat) (xs : List Value) (hv : a.eval sl = v) (hown : w.ownsRow 0 e size v n xs) (xv : Value) (hx : a.eval x = xv) (m : Nat) (news : List Value)
    (hs : Src P size tx xv m news w) (h63 : n + m ≤ 9223372036854775807) (hbytes : (n + m) * bytes ≤ 140737488355328)
    (h : ∀ ao c w', w'.ownsRow 0 e size (.slice ao (n + m) c) (n + m) (xs ++ news) → Turn (fun k => v.ownBlock = some k) w w' → Hid ((Value.slice ao (n + m) c).ownBlock = v.ownBlock ∨ (Value.slice ao (n + m) c).ownBlock = some w.heap.size) → K (a.put o.dst (.slice ao (n + m) c)) w') :
    if Region.wanted o (yielded ops a.tmps) = true then Oper.wp P o a w K Q else E := by
  have hw : Region.wanted o (yielded ops a.tmps) = true := by simp [Region.wanted, hgd]
  rw [if_pos hw]
  obtain ⟨v', w', hr, h2, h3, h4, _⟩ := append_turn (P := P) w t tx o.type e i z size bytes ht hi hz hsize hby hzs v n xs hown xv m news hs h63 hbytes
  unfold Oper.wp execOp
  simp only [ho, resolve, invoke, builtin, Sem.run_bind, Sem.run_pure, Result.andThen_ok, List.map_toArray, List.map_cons, List.map_nil, hv, hx, hr]
  obtain ⟨ao, c, rfl, _⟩ := ownsRow_shape h2
  exact h ao c w' h2 h3 h4

/-- The padding of which the last k bytes are written. -/
def padCur (a k : Nat) : List UInt8 := 128 :: (List.replicate (zerosOf a) 0 ++ beTailS (8 * a) 8 k)
theorem padCur_zero (a pl : Nat) (h : pl = zerosOf a + 9) : (u8s (List.replicate pl 0)).toArray.setIfInBounds 0 (Value.int .u8 128) = (u8s (padCur a 0)).toArray := by
  apply Array.toList_inj.1
  rw [Array.toList_setIfInBounds, padCur, beTail_zeroS, List.replicate_append_replicate, h, List.replicate_succ]
  rfl
theorem padCur_full (a : Nat) : padCur a 8 = padOf a := by rw [padCur, beTail_fullS]; rfl
theorem padCur_length (a k : Nat) (h : k ≤ 8) : (padCur a k).length = 9 + zerosOf a := by simp [padCur, beTail_lengthS _ _ _ h]; omega
theorem padCur_set (a k ix : Nat) (h : k < 8) (hix : ix = zerosOf a + 1 + (7 - k)) (b : Value) (hb : b = Value.int .u8 ((((8 * a) >>> (8 * k)) % 256 : Nat) : Int)) : (u8s (padCur a k)).toArray.setIfInBounds ix b = (u8s (padCur a (k + 1))).toArray := by
  apply Array.toList_inj.1
  have e := congrArg Array.toList (beTail_setS (8 * a) 8 k h)
  rw [← hb] at e
  simp only [Nat.add_one_sub_one] at e
  have hc : ∀ j, u8s (padCur a j) = u8 128 :: (u8s (List.replicate (zerosOf a) 0) ++ u8s (beTailS (8 * a) 8 j)) := fun j => by simp [padCur, u8s]
  have hl : (u8s (List.replicate (zerosOf a) 0)).length = zerosOf a := by simp [u8s]
  rw [Array.toList_setIfInBounds, hc, hc, hix, show zerosOf a + 1 + (7 - k) = (zerosOf a + (7 - k)) + 1 from by omega, List.set_cons_succ, List.set_append_right _ _ (by rw [hl]; omega), hl, show zerosOf a + (7 - k) - zerosOf a = 7 - k from by omega, ← e]

set_option maxRecDepth 100000 in
set_option maxHeartbeats 1000000 in
theorem DSum_any (w : World) (g : Nat) (h8 : V8) (v : Value) (r : List UInt8) (a : Nat) (hd : Dig w g h8 v r a) (hr : r.length = a % 64) (ha : a ≤ 140737488355328) :
    Calls Try.prog 130 #[.pointer (some ⟨g, 0, none⟩)] w fun e w' => e = .returned (hv (outV (blocksV h8 (r ++ padOf a) ((r ++ padOf a).length / 64)))) ∧ Pure w w' := by
  have hgl : g < w.heap.size := (Array.getElem?_eq_some_iff.1 hd.at_).1
  have hs8 : (Try.prog.info? 220).map (·.size) = some 8 := by kernel_rfl
  have HS8 := Lib.hid hs8; clear hs8
  have hz32 : (Try.prog.info? 62).bind (·.zero) = some (.agg (u8s (List.replicate 32 0)).toArray) := by kernel_rfl
  have hZ32 : ∀ l : List Value, l = u8s (List.replicate 32 0) → (Try.prog.info? 62).bind (·.zero) = some (.agg l.toArray) := fun l e => by rw [e]; exact hz32
  obtain ⟨X, hX⟩ : ∃ X, X = u8s (List.replicate 32 0) := ⟨_, rfl⟩
  have hXl : X.length = 32 := by rw [hX]; rfl
  have HZ32 := Lib.hid (hZ32 X hX); clear hZ32 hz32
  have HX := Lib.hid hX; clear hX
  have HD := Lib.hid hd; clear hd
  have HR := Lib.hid hr; clear hr
  go_enter Try.func130, Try.ntmps130
  go_wp2_with (refine wpList_allocZ rfl 62 rfl X HZ32.out ?_)
  intro g0 w1 e0 c0 t0 s0
  have l0 : w.heap.size ≤ g0 := by omega
  clear e0
  have hat := t0.obj HD.out.at_ (fun e => e)
  have hown := t0.own HD.out.own (fun _ _ e => e)
  have c8 := dig_rest hat
  have e0 := tl_cell hat 0 (by show 0 < 8; decide)
  have e1 := tl_cell hat 1 (by show 1 < 8; decide)
  have e2 := tl_cell hat 2 (by show 2 < 8; decide)
  have e3 := tl_cell hat 3 (by show 3 < 8; decide)
  have e4 := tl_cell hat 4 (by show 4 < 8; decide)
  have e5 := tl_cell hat 5 (by show 5 < 8; decide)
  have e6 := tl_cell hat 6 (by show 6 < 8; decide)
  have e7 := tl_cell hat 7 (by show 7 < 8; decide)
  have c9 := dig_all hat
  obtain ⟨ha_, hb_, hc_, hd_, he_, hf_, hg_, hh_⟩ := h8
  simp only [V8.list, List.getD_cons_zero, List.getD_cons_succ] at e0 e1 e2 e3 e4 e5 e6 e7
  have HAT := Lib.hid hat; clear hat
  have HOWN := Lib.hid hown; clear hown
  obtain ⟨i5, hi, hiz, hsz, hby⟩ := info_parts Try.infoU8S
  have hrb : r.length ≤ 140737488355328 := by rw [HR.out]; omega
  have hsrc : ∀ W : World, Pure w1 W → Src Try.prog 1 65 v r.length (u8s r) W := by
    intro W hW
    have ho := hW.own HOWN.out (fun _ _ e => e)
    obtain ⟨ao, c, rfl, _⟩ := ownsRow_shape ho
    cases ao with
    | none =>
      have h0 : r.length = 0 ∧ c = 0 := by
        rcases ho.2 with ⟨h1, h2⟩ | ⟨_, _, _, h1, _⟩
        · simp only [Value.slice.injEq] at h1; exact ⟨h2, h1.2.2⟩
        · simp at h1
      have hr0 : r = [] := List.eq_nil_of_length_eq_zero h0.1
      subst hr0
      exact Src.ofNil W Try.underlying65 c
    | some ad =>
      rcases ho.2 with ⟨h1, _⟩ | ⟨gg, _, _, h1, _⟩
      · simp at h1
      · simp only [Value.slice.injEq, Option.some.injEq] at h1
        obtain ⟨rfl, _, _⟩ := h1
        exact Src.ofSlice W Try.underlying65 _ _ _ _ (by rw [u8s_length]; omega) (ho.cells (g := gg) rfl) (u8s_one _)
  have HSRC := Lib.hid hsrc; clear hsrc
  go_wp2_with fail
  go_region_held3 (fun w' => w'.cell? ⟨g, 0, none⟩ = some (.int .u32 (ha_.toNat : Int)) ∧ w'.cell? ⟨g, 1, none⟩ = some (.int .u32 (hb_.toNat : Int)) ∧ w'.cell? ⟨g, 2, none⟩ = some (.int .u32 (hc_.toNat : Int)) ∧ w'.cell? ⟨g, 3, none⟩ = some (.int .u32 (hd_.toNat : Int)) ∧ w'.cell? ⟨g, 4, none⟩ = some (.int .u32 (he_.toNat : Int)) ∧ w'.cell? ⟨g, 5, none⟩ = some (.int .u32 (hf_.toNat : Int)) ∧ w'.cell? ⟨g, 6, none⟩ = some (.int .u32 (hg_.toNat : Int)) ∧ w'.cell? ⟨g, 7, none⟩ = some (.int .u32 (hh_.toNat : Int)) ∧ w'.cell? ⟨g, 8, none⟩ = some v)
    (first
      | go_keep
      | (go_split_ands
         refine ⟨?_, ?_, ?_, ?_, ?_, ?_, ?_, ?_, ?_⟩ <;> (refine ht2.cell ?_ (by simp [Value.ownBlock]); assumption)))
    ((refine step_append_turn (by rfl) _ _ 65 65 5 (by rfl) i5 _ 1 1 Try.underlying65 hi hiz hsz hby rfl (.slice none 0 0) 0 [] (by rfl) (World.ownsRow_nil _ _ _ _) _ (by rfl) r.length (u8s r) (HSRC.out _ (Turn.refl _ w1).drew) (by omega) (by omega) ?_; intro ao2 c2 w2 hown2 ht2 hb2))
  rw [Nat.zero_add, List.nil_append] at hown2
  rw [Nat.zero_add] at hb2
  have hp2 : Pure w1 w2 := ((Turn.refl (fun _ => False) w1).drew).trans (ht2.mono fun k _ e => by simp [Value.ownBlock] at e) fun _ _ e => e
  have hD3 : Dig (w2.alloc (.cells (digC ⟨ha_, hb_, hc_, hd_, he_, hf_, hg_, hh_⟩ (.slice ao2 r.length c2) 0).toArray 222)) w2.heap.size ⟨ha_, hb_, hc_, hd_, he_, hf_, hg_, hh_⟩ (.slice ao2 r.length c2) r 0 :=
    ⟨heap_alloc_new w2 _, hown2.alloc _, fun e => by have := hown2.lt _ e; omega⟩
  have P3 : Pure w (w2.alloc (.cells (digC ⟨ha_, hb_, hc_, hd_, he_, hf_, hg_, hh_⟩ (.slice ao2 r.length c2) 0).toArray 222)) := (t0.pure hp2).alloc _
  have hP13 : Pure w1 (w2.alloc (.cells (digC ⟨ha_, hb_, hc_, hd_, he_, hf_, hg_, hh_⟩ (.slice ao2 r.length c2) 0).toArray 222)) := hp2.alloc _
  have C0 := hP13.obj c0 (fun e => e)
  have c9 := hP13.cell c9 (fun e => e)
  have hgx : g0 < w2.heap.size := by have := hp2.size; omega
  have hgl2 : g < g0 := by omega
  have hlow : ∀ k, (Value.slice ao2 r.length c2).ownBlock = some k → g0 < k := by
    intro k hk
    rcases hb2.out with e | e
    · rw [e] at hk; simp [Value.ownBlock] at hk
    · rw [e] at hk; have := Option.some.inj hk; have : w1.drew.heap.size = w1.heap.size := rfl; omega
  change Exit.then _ _ Exit.normal _ (w2.alloc (.cells (digC ⟨ha_, hb_, hc_, hd_, he_, hf_, hg_, hh_⟩ (.slice ao2 r.length c2) 0).toArray 222))
  generalize w2.alloc (.cells (digC ⟨ha_, hb_, hc_, hd_, he_, hf_, hg_, hh_⟩ (.slice ao2 r.length c2) 0).toArray 222) = w3 at *
  generalize w2.heap.size = gx at *
  clear e0 e1 e2 e3 e4 e5 e6 e7 c0 t0 s0 hb2 ht2 hown2 hp2 hP13 HSRC HOWN HAT HD c8
  have c8 := dig_rest hD3.at_
  have HC0 := Lib.hid C0; have HP3 := Lib.hid P3; have HD3 := Lib.hid hD3; have HLOW := Lib.hid hlow
  clear C0 P3 hD3 hlow
  generalize hh8 : (⟨ha_, hb_, hc_, hd_, he_, hf_, hg_, hh_⟩ : V8) = h8 at *
  have HH8 := Lib.hid hh8; clear hh8
  obtain ⟨z, hz⟩ : ∃ z, z = zerosOf a := ⟨_, rfl⟩
  have hz64 : z < 64 := by rw [hz, zerosOf]; omega
  obtain ⟨d, hd⟩ : ∃ d, d = 119 - r.length := ⟨_, rfl⟩
  have hrl := HR.out
  have i1 : IntKind.i64.wrap (119 - (r.length : Int)) = (d : Int) := by rw [IntWalk.i64_in _ (by omega)]; omega
  have i2 : (d : Int).tmod 64 = (z : Int) := by rw [Int.tmod_eq_emod_of_nonneg (by omega), hz, zerosOf]; omega
  obtain ⟨z1, hz1⟩ : ∃ z1, z1 = 1 + z := ⟨_, rfl⟩
  have i3 : IntKind.i64.wrap (1 + (z : Int)) = (z1 : Int) := by rw [IntWalk.i64_in _ (by omega)]; omega
  obtain ⟨pl, hpl⟩ : ∃ pl, pl = z1 + 8 := ⟨_, rfl⟩
  have i4 : IntKind.i64.wrap ((z1 : Int) + 8) = (pl : Int) := by rw [IntWalk.i64_in _ (by omega)]; omega
  have hmk := fun W => make_u8S W pl (by omega)
  have HZ := Lib.hid (And.intro hz (And.intro hd (And.intro hz1 hpl))); clear hz hd hz1 hpl hrl
  go_upto_region 5 with fail
  have hP34 : Pure w3 (w3.alloc (.cells (u8s (List.replicate pl 0)).toArray 5)) := (Turn.refl _ w3).alloc _
  have G4 := heap_alloc_new w3 (.cells (u8s (List.replicate pl 0)).toArray 5)
  have hgp : gx < w3.heap.size := (Array.getElem?_eq_some_iff.1 HD3.out.at_).1
  have hD4 : Dig (w3.alloc (.cells (u8s (List.replicate pl 0)).toArray 5)) gx h8 (.slice ao2 r.length c2) r 0 := ⟨hP34.obj HD3.out.at_ (fun e => e), HD3.out.own.alloc _, HD3.out.ne⟩
  have HUP : Hid (∀ k, (Value.slice ao2 r.length c2).ownBlock = some k → k < w3.heap.size) := Lib.hid fun k hk => (HD3.out.own.lt k hk).2
  have hC4 := hP34.obj HC0.out (fun e => e)
  have c9 := hP34.cell c9 (fun e => e)
  have hP4 := HP3.out.pure hP34
  generalize w3.alloc (.cells (u8s (List.replicate pl 0)).toArray 5) = w4 at *
  generalize w3.heap.size = gp at *
  clear hP34 HC0 HP3 HD3 hmk i1 i2 i3 i4 c8
  have HD4 := Lib.hid hD4; have HC4 := Lib.hid hC4; have HP4 := Lib.hid hP4
  clear hD4 hC4 hP4
  have hplz : pl = zerosOf a + 9 := by have := HZ.out; omega
  have hf0 := frozen_of_row w4 gp 0 _ _ G4
  have hc0 : w4.cell? ⟨gp, 0, none⟩ = some (u8 0) := by
    rw [cell_of_row w4 gp 0 _ _ _ G4]
    simp [u8s, show 0 < pl by omega]
  have hpl0 : (0 : Int) < pl := by omega
  have G5 : (w4.setCell ⟨gp, 0, none⟩ (.int .u8 128)).heap[gp]? = some (.cells (u8s (padCur a 0)).toArray 5 (0, 0)) := (heap_set_cell G4).trans (by rw [padCur_zero a pl hplz])
  have T5 : Turn (fun k => k = gp) w4 (w4.setCell ⟨gp, 0, none⟩ (.int .u8 128)) := (Turn.refl (fun k => k = gp) w4).setCell (fun _ => rfl) _
  have HG5 := Lib.hid G5; have HT5 := Lib.hid T5; have HPLZ := Lib.hid hplz
  clear G4 G5 T5 hplz
  go_upto_region 6 with fail
  generalize w4.setCell ⟨gp, 0, none⟩ (.int .u8 128) = w5 at *
  clear hf0 hc0
  go_wp2
  go_loopw [5, 34] (fun _ i wr => ∃ k : Nat, k ≤ 8 ∧ i = .int .i64 (k : Int) ∧ Hid (wr.heap[gp]? = some (.cells (u8s (padCur a k)).toArray 5 (0, 0))) ∧ Turn (fun b => b = gp) w5 wr) (fun _ i _ => 8 - (intOf i).toNat)
  case atStart => exact ⟨0, by omega, rfl, HG5, Turn.refl _ _⟩
  case round =>
    obtain ⟨k, hk, rfl, HC, ht⟩ := hrel
    by_cases hlk : k < 8
    · have c9 : wr.cell? ⟨g, 9, none⟩ = _ := (HT5.out.trans ht fun _ _ e => e).cell c9 (by show ¬ g = gp; omega)
      obtain ⟨m1, hm1⟩ : ∃ m1, m1 = pl - 1 := ⟨_, rfl⟩
      obtain ⟨ix, hix⟩ : ∃ ix, ix = m1 - k := ⟨_, rfl⟩
      obtain ⟨n8, hn8⟩ : ∃ n8, n8 = 8 * a := ⟨_, rfl⟩
      obtain ⟨k8, hk8⟩ : ∃ k8, k8 = 8 * k := ⟨_, rfl⟩
      have hplz := HPLZ.out
      have hzb : zerosOf a < 64 := by rw [zerosOf]; omega
      have j1 : IntKind.i64.wrap ((pl : Int) - 1) = (m1 : Int) := by rw [IntWalk.i64_in _ (by omega)]; omega
      have j2 : IntKind.i64.wrap ((m1 : Int) - (k : Int)) = (ix : Int) := by rw [IntWalk.i64_in _ (by omega)]; omega
      have j3 : IntKind.u64.wrap (a : Int) = (a : Int) := by rw [IntKind.wrap_u64]; omega
      have j4 : IntKind.u64.wrap ((a : Int) * 8) = (n8 : Int) := by rw [IntKind.wrap_u64]; omega
      have j5 : IntKind.i64.wrap (8 * (k : Int)) = (k8 : Int) := by rw [IntWalk.i64_in _ (by omega)]; omega
      have j6 : (k8 : Int) < 64 := by omega
      have j7 : (0 : Int) ≤ k8 := by omega
      have j8 : (ix : Int) < pl := by omega
      have j9 : (0 : Int) ≤ ix := by omega
      have hk8i : (k : Int) < 8 := by omega
      have hfr := frozen_of_row wr gp ix _ _ HC.out
      have hcl : wr.cell? ⟨gp, ix, none⟩ = some (u8 ((padCur a k).getD ix 0)) := by
        rw [cell_of_row wr gp ix _ _ _ HC.out]
        simp [u8s, List.getD, padCur_length a k hk, show ix < 9 + zerosOf a by omega]
      have hset : ∀ W : World, W.heap[gp]? = some (.cells (u8s (padCur a k)).toArray 5 (0, 0)) → (W.setCell ⟨gp, ix, none⟩ (Value.int .u8 ((n8 : Int) / 2 ^ k8 % 256))).heap[gp]? = some (.cells (u8s (padCur a (k + 1))).toArray 5 (0, 0)) := by
        intro W hW
        rw [heap_set_cell hW, padCur_set a k ix hlk (by omega) _ (by rw [hn8, hk8, Nat.shiftRight_eq_div_pow]; push_cast; rfl)]
      have HSET := Lib.hid hset; clear hset
      generalize (padCur a k).getD ix 0 = y at hcl
      have HI := Lib.hid (And.intro hk (And.intro hlk (And.intro hm1 (And.intro hix (And.intro hn8 (And.intro hk8 hplz))))))
      clear hk hlk hm1 hix hn8 hk8 hplz hzb
      go_wp2
      exact ⟨⟨k + 1, by have := HI.out; omega, by go_num, Lib.hid (HSET.out _ HC.out), ht.setCell (fun _ => rfl) _⟩, by have := HI.out; simp [intOf]; omega⟩
    · obtain rfl : k = 8 := by omega
      have hT9 : Turn (fun k => k = gp) w4 wr := HT5.out.trans ht fun _ _ e => e
      have c5 := HC.out
      rw [padCur_full] at c5
      have hpol : (padOf a).length = pl := by rw [padOf_length, HPLZ.out]; omega
      have hcv := conv_block (P := Try.prog) wr 65 5 9 5 (0, 0) Try.underlying65 Try.underlying5 Try.underlying9 gp pl (padOf a) pl hpol c5
      have hD9 : Dig wr gx h8 (.slice ao2 r.length c2) r 0 := ⟨hT9.obj HD4.out.at_ (by omega), hT9.own HD4.out.own (fun k hk e => by have := HUP.out k hk; omega), HD4.out.ne⟩
      have hC9 := Lib.hid (hT9.obj HC4.out (by omega))
      have hP9 : Hid (Pure w wr) := Lib.hid (HP4.out.trans hT9 fun i hi e => by omega)
      have hzb : zerosOf a < 64 := by rw [zerosOf]; omega
      have hpb : r.length + (padOf a).length ≤ 140737488355328 := by rw [hpol, HPLZ.out, HR.out]; omega
      have HD9 := Lib.hid hD9; clear hD9
      clear hT9 c5 ht HC HC4 HD4 HP4 HG5 HT5 hzb c9 hpol
      go_wp2_with fail
      refine (Write_any wr gx h8 _ r 0 (padOf a) HD9.out hpb (by omega)).mono ?_
      rintro e w6 ⟨rfl, v', hD6, _, t6⟩
      have hC6 := Lib.hid (t6.obj hC9.out (fun e => e.elim (fun e => by omega) fun e => by have := HLOW.out _ e; omega))
      have hP6 : Hid (Pure w w6) := Lib.hid (hP9.out.trans t6 fun i hi e => e.elim (fun e => by omega) fun e => by have := HLOW.out _ e; omega)
      have hgx6 : gx < w6.heap.size := (Array.getElem?_eq_some_iff.1 hD6.at_).1
      have hat := Lib.hid hD6.at_
      clear hD6 t6 hC9 hP9 HD9 hcv
      generalize hv : blocksV h8 (r ++ padOf a) ((r ++ padOf a).length / 64) = V at hat
      have HV := Lib.hid hv; clear hv
      go_wp2_with (refine wpList_allocZ rfl 62 rfl X HZ32.out ?_)
      intro g6 w7 e7 c7 t7 s7
      have l7 : gx < g6 := by omega
      have C7 := Lib.hid (t7.obj hC6.out (fun e => e))
      have C8 := Lib.hid (t7.obj hat.out (fun e => e))
      have P7 := Lib.hid (hP6.out.pure t7)
      clear e7 t7 s7 hC6 hat hP6
      go_wp2
      go_loopw [7, 59] (fun _ i wr => ∃ k : Nat, k ≤ 32 ∧ i = .int .i64 (k : Int) ∧ Hid (wr.heap[g6]? = some (.cells (u8s (outCur V k)).toArray 62 (0, 0))) ∧ Turn (fun b => b = g6) w7 wr) (fun _ i _ => 32 - (intOf i).toNat)
      case atStart => exact ⟨0, by omega, rfl, Lib.hid (by rw [c7, outCur_zero, HX.out]), Turn.refl _ _⟩
      case round =>
        obtain ⟨i, hi, rfl, HD, ht⟩ := hrel
        by_cases hli : i < 32
        · obtain ⟨d, hd⟩ : ∃ d, d = i / 4 := ⟨_, rfl⟩
          obtain ⟨m, hm⟩ : ∃ m, m = i % 4 := ⟨_, rfl⟩
          have e0 := tl_cell (ht.obj C8.out (by omega)) d (by show d < 8; omega)
          have i1 : (i : Int) / 4 = (d : Int) := by omega
          have i2 : (i : Int).tmod 4 = (m : Int) := by rw [Int.tmod_eq_emod_of_nonneg (by omega)]; omega
          obtain ⟨m8, hm8⟩ : ∃ m8, m8 = 8 * m := ⟨_, rfl⟩
          have i3 : IntKind.i64.wrap (8 * (m : Int)) = (m8 : Int) := by rw [IntWalk.i64_in _ (by omega)]; omega
          obtain ⟨sh, hsh⟩ : ∃ sh, sh = 24 - m8 := ⟨_, rfl⟩
          have i4 : IntKind.i64.wrap (24 - (m8 : Int)) = (sh : Int) := by rw [IntWalk.i64_in _ (by omega)]; omega
          have i5 : (sh : Int) < 32 := by omega
          have i6 : (0 : Int) ≤ sh := by omega
          have d8 : (d : Int) < 8 := by omega
          have d0 : (0 : Int) ≤ d := by omega
          have k32 : (i : Int) < 32 := by omega
          have k0 : (0 : Int) ≤ i := by omega
          have hfr := frozen_of_row wr g6 i _ _ HD.out
          have hcl : wr.cell? ⟨g6, i, none⟩ = some (u8 ((outCur V i).getD i 0)) := by
            rw [cell_of_row wr g6 i _ _ _ HD.out]
            simp [u8s, List.getD, outCur_length V i hi, hli]
          have hset : ∀ W : World, W.heap[g6]? = some (.cells (u8s (outCur V i)).toArray 62 (0, 0)) → (W.setCell ⟨g6, i, none⟩ (Value.int .u8 (((V.list.getD d 0).toNat : Int) / 2 ^ sh % 256))).heap[g6]? = some (.cells (u8s (outCur V (i + 1))).toArray 62 (0, 0)) := by
            intro W hW
            rw [heap_set_cell hW, ← outCur_set V i hli, ← outAt_cell, hsh, hm8, hm, hd]
          have HSET := Lib.hid hset; clear hset
          generalize V.list.getD d 0 = x at e0 HSET
          generalize (outCur V i).getD i 0 = y at hcl
          have HI := Lib.hid (And.intro hi (And.intro hli (And.intro hd (And.intro hm (And.intro hm8 hsh)))))
          clear hi hli hd hm hm8 hsh
          go_wp2
          exact ⟨⟨i + 1, by have := HI.out; omega, by go_num, Lib.hid (HSET.out _ HD.out), ht.setCell (fun _ => rfl) _⟩, by have := HI.out; simp [intOf]; omega⟩
        · obtain rfl : i = 32 := by omega
          have d0 := HD.out
          rw [outCur_full] at d0
          have D0 := Lib.hid d0
          have C9 := Lib.hid (ht.obj C7.out (by omega))
          have T9 : Hid (Pure w wr) := Lib.hid (P7.out.trans ht fun i hi e => by omega)
          have hs32 : (Try.prog.info? 62).map (·.size) = some 32 := by kernel_rfl
          have hRl : (u8s (outV V)).length = 32 := by rw [u8s_length, outV_length]
          have hR1 := u8s_one (outV V)
          generalize hRR : u8s (outV V) = R at D0 hRl hR1
          have HS32 : Hid ((Try.prog.info? 62).map (·.size) = some R.length) := Lib.hid (by rw [hRl]; exact hs32)
          have HS33 : Hid ((Try.prog.info? 62).map (·.size) = some R.toArray.size) := Lib.hid (by rw [List.size_toArray]; exact HS32.out)
          have hXR : X.toArray.size = R.length := by rw [List.size_toArray, hXl, hRl]
          have HRR := Lib.hid hRR; have HR1 := Lib.hid hR1; have HXR := Lib.hid hXR
          clear hRR hR1 hXR hs32 d0 HD ht C7 C8
          go_wp2_with (first | (refine wpList_load_row rfl 62 _ rfl g6 rfl _ R.toArray _ _ D0.out Try.underlying62 rfl HS33.out ?_) | (refine wpList_store_blk rfl 62 _ _ rfl g0 _ R _ rfl rfl C9.out HXR.out HS32.out HR1.out ?_))
          intro w9 c9 t9 _
          have hc9 := Lib.hid c9; clear c9
          have HT9 := Lib.hid (T9.out.trans t9 fun i hi e => by omega)
          clear t9
          go_wp2
          refine bodyPost_ret (v := .agg R.toArray) (results_cell_row Try.results130 _ _ g0 _ R.toArray _ _ rfl hc9.out Try.underlying62 rfl HS33.out) rfl ⟨by rw [← HRR.out, ← HV.out, HH8.out], HT9.out⟩

set_option maxHeartbeats 400000 in
theorem Sum_any (w : World) (s : List UInt8) (hs : s.length ≤ 140737488355328) :
    Calls Try.prog 103 #[.string (bstr s)] w fun e w' => e = .returned (hv (shaV s)) ∧ Pure w w' := by
  have hz32 : (Try.prog.info? 62).bind (·.zero) = some (.agg (u8s (List.replicate 32 0)).toArray) := by kernel_rfl
  have hZ32 : ∀ l : List Value, l = u8s (List.replicate 32 0) → (Try.prog.info? 62).bind (·.zero) = some (.agg l.toArray) := fun l e => by rw [e]; exact hz32
  obtain ⟨X, hX⟩ : ∃ X, X = u8s (List.replicate 32 0) := ⟨_, rfl⟩
  have hXl : X.length = 32 := by rw [hX]; rfl
  have HZ32 := Lib.hid (hZ32 X hX); clear hZ32 hz32
  have HX := Lib.hid hX; clear hX
  have hs32 : (Try.prog.info? 62).map (·.size) = some 32 := by kernel_rfl
  have hRl : (u8s (shaV s)).length = 32 := by rw [u8s_length, shaV_length]
  have hR1 := u8s_one (shaV s)
  have HS32 : Hid ((Try.prog.info? 62).map (·.size) = some (u8s (shaV s)).length) := Lib.hid (by rw [hRl]; exact hs32)
  have HS33 : Hid ((Try.prog.info? 62).map (·.size) = some (u8s (shaV s)).toArray.size) := Lib.hid (by rw [List.size_toArray]; exact HS32.out)
  have hXR : X.toArray.size = (u8s (shaV s)).length := by rw [List.size_toArray, hXl, hRl]
  have HR1 := Lib.hid hR1; have HXR := Lib.hid hXR
  clear hs32 hRl hR1 hXR
  go_enter Try.func103, Try.ntmps103
  go_wp2_with (refine wpList_allocZ rfl 62 rfl X HZ32.out ?_)
  intro g0 w1 e0 c0 t0 s0
  have l0 : w.heap.size ≤ g0 := by omega
  have lw : g0 < w1.heap.size := by omega
  have C0 := Lib.hid c0; have P1 := Lib.hid t0
  clear e0 c0 t0 s0
  go_wp2_with fail
  refine (New_any _).mono ?_
  rintro e w2 ⟨g, rfl, hd2, hg2, t2⟩
  have C2 := Lib.hid (t2.obj C0.out (fun e => e))
  have P2 := Lib.hid (P1.out.pure t2)
  have hD := Lib.hid hd2
  clear C0 P1 hd2 t2
  go_wp2_with fail
  refine (Write_any w2 g shaH0 _ [] 0 s hD.out (by simpa using hs) (by omega)).mono ?_
  rintro e w3 ⟨rfl, v', hd3, _, t3⟩
  rw [List.nil_append, Nat.zero_add] at hd3
  have C3 := Lib.hid (t3.obj C2.out (fun e => e.elim (fun e => by omega) fun e => by simp [Value.ownBlock] at e))
  have P3 := Lib.hid (P2.out.trans t3 fun i hi e => e.elim (fun e => by omega) fun e => by simp [Value.ownBlock] at e)
  have hD3 := Lib.hid hd3
  clear C2 P2 hd3 t3 hD
  go_wp2_with fail
  refine (DSum_any w3 g _ _ _ _ hD3.out (by rw [restOf_length]) (by omega)).mono ?_
  rintro e w4 ⟨rfl, t4⟩
  have C4 := Lib.hid (t4.obj C3.out (fun e => e))
  have P4 := Lib.hid (P3.out.pure t4)
  clear C3 P3 t4 hD3
  rw [show outV (blocksV (blocksV shaH0 s (s.length / 64)) (restOf s ++ padOf s.length) ((restOf s ++ padOf s.length).length / 64)) = shaV s from rfl]
  generalize hRR : u8s (shaV s) = R at *
  rw [show hv (shaV s) = Value.agg R.toArray from by rw [← hRR]]
  go_wp2_with (refine wpList_store_blk rfl 62 _ _ rfl g0 _ R _ rfl rfl C4.out HXR.out HS32.out HR1.out ?_)
  intro w9 c9 t9 _
  have hc9 := Lib.hid c9; clear c9
  have HT9 := Lib.hid (P4.out.trans t9 fun i hi e => by omega)
  clear t9
  go_wp2
  refine bodyPost_ret (v := .agg R.toArray) (results_cell_row Try.results103 _ _ g0 _ R.toArray _ _ rfl hc9.out Try.underlying62 rfl HS33.out) rfl ⟨by rw [← hRR], HT9.out⟩
end Go.Proofs.Ytcfbmbhkdicpfaa
