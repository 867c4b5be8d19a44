/- The program's digest: bytes written. -/
import Derived.Test.YtmifchdmlbcclaaShaD
import Derived.Test.YtmifchdmlbcclaaBe
import Derived.Test.YtmifchdmlbcclaaShaT
import Derived.Deep.AppendSrc
namespace Go.Proofs.Ytmifchdmlbcclaa
open Go.RowKit

/-- The cells of a digest under way. -/
def digC (h : V8) (v : Value) (a : Nat) : List Value := uws h.list ++ [v, .int .i64 (a : Int)]
theorem dig_set8 (h : V8) (v v' : Value) (a : Nat) : (digC h v a).toArray.setIfInBounds 8 v' = (digC h v' a).toArray := by cases h; rfl
theorem dig_set9 (h : V8) (v : Value) (a b : Nat) : (digC h v a).toArray.setIfInBounds 9 (.int .i64 (b : Int)) = (digC h v b).toArray := by cases h; rfl
theorem dig_rest {w : World} {g : Nat} {h : V8} {v : Value} {a : Nat} {T : TypeId} (hg : w.heap[g]? = some (.cells (digC h v a).toArray T (0, 0))) : w.cell? ⟨g, 8, none⟩ = some v := by
  rw [cell_of_row w g 8 _ _ _ hg]; cases h; rfl
theorem dig_all {w : World} {g : Nat} {h : V8} {v : Value} {a : Nat} {T : TypeId} (hg : w.heap[g]? = some (.cells (digC h v a).toArray T (0, 0))) : w.cell? ⟨g, 9, none⟩ = some (.int .i64 (a : Int)) := by
  rw [cell_of_row w g 9 _ _ _ hg]; cases h; rfl

/-- A digest under way: its words, what is left of a block, how many bytes were written. -/
structure Dig (w : World) (g : Nat) (h : V8) (v : Value) (r : List UInt8) (a : Nat) : Prop where
  at_ : w.heap[g]? = some (.cells (digC h v a).toArray 124 (0, 0))
  own : w.ownsRow 0 5 1 v r.length (u8s r)
  ne : v.ownBlock ≠ some g

set_option maxRecDepth 100000 in
set_option maxHeartbeats 1000000 in
theorem Write_any (w : World) (g : Nat) (h8 : V8) (v : Value) (r : List UInt8) (a : Nat) (s : List UInt8) (hd : Dig w g h8 v r a) (hb : r.length + s.length ≤ 140737488355328) (ha : a ≤ 140737488355328) :
    Calls Try.prog 65 #[.pointer (some ⟨g, 0, none⟩), .string (bstr s)] w fun e w' => e = .returned (.tuple #[]) ∧
      ∃ v', Dig w' g (blocksV h8 (r ++ s) ((r ++ s).length / 64)) v' (restOf (r ++ s)) (a + s.length) ∧ (∀ k, v'.ownBlock = some k → w.heap.size ≤ k) ∧ Turn (fun k => k = g ∨ v.ownBlock = some k) w w' := by
  have hz := bstr_size s
  have hgl : g < w.heap.size := (Array.getElem?_eq_some_iff.1 hd.at_).1
  obtain ⟨a2, ha2⟩ : ∃ a2, a2 = a + s.length := ⟨_, rfl⟩
  have hwr : IntKind.i64.wrap ((a : Int) + (s.length : Int)) = (a2 : Int) := by rw [IntWalk.i64_in _ (by omega)]; omega
  have c9 := dig_all hd.at_
  have f9 := frozen_of_row w g 9 _ _ hd.at_
  have f8 := frozen_of_row w g 8 _ _ hd.at_
  have T1 : Turn (fun k => k = g) w (w.setCell ⟨g, 9, none⟩ (.int .i64 (a2 : Int))) := (Turn.refl (fun k => k = g) w).setCell (fun _ => rfl) _
  have G1 : (w.setCell ⟨g, 9, none⟩ (.int .i64 (a2 : Int))).heap[g]? = some (.cells (digC h8 v a2).toArray 124 (0, 0)) := (heap_set_cell hd.at_).trans (by rw [dig_set9])
  have c8 := dig_rest G1
  have O1 := Lib.hid (T1.own hd.own (fun k hk e => hd.ne (by rw [hk, e])))
  have HD := Lib.hid hd; clear hd
  have HG1 := Lib.hid G1
  have HT1 := Lib.hid T1
  clear G1 T1
  have HA := Lib.hid ha2; clear ha2
  rw [← HA.out]
  obtain ⟨i5, hi, hiz, hsz, hby⟩ := info_parts Try.infoU8S
  have hsrc : ∀ W, Src Try.prog 1 9 (.string (bstr s)) s.length (u8s s) W := fun W => by
    have := Src.ofString (P := Try.prog) W (tx := 9) Try.underlying9 (bstr s)
    rwa [bstr_size, byteCells_u8s, bstr_data] at this
  have HS := Lib.hid hsrc; clear hsrc
  go_enter Try.func65, Try.ntmps65
  go_wp2_with (at_builtin; refine wpList_append_turn _ rfl _ _ 61 9 5 rfl i5 _ 1 1 Try.underlying61 hi hiz hsz hby rfl v _ _ rfl O1.out _ rfl s.length _ (HS.out _) ?_ ?_ ?_)
  case refine_1 => omega
  case refine_2 => omega
  intro ao c w2 hown2 ht2 hb2
  have hne : (Value.slice ao (r.length + s.length) c).ownBlock ≠ some g := by
    rcases hb2.out with e | e
    · rw [e]; exact HD.out.ne
    · rw [e]; intro h; have := Option.some.inj h; omega
  have G2 := ht2.obj HG1.out (fun e => HD.out.ne e)
  have T2 : Turn (fun k => k = g ∨ v.ownBlock = some k) w w2 := (HT1.out.mono fun _ _ e => .inl e).trans ht2 fun i hi e => .inr e
  have c82 := dig_rest G2
  have f82 := frozen_of_row w2 g 8 _ _ G2
  have hlow : ∀ k, (Value.slice ao (r.length + s.length) c).ownBlock = some k → v.ownBlock = some k ∨ w.heap.size ≤ k := by
    intro k hk
    rcases hb2.out with e | e
    · left; rw [← e]; exact hk
    · right; rw [e] at hk; have := Option.some.inj hk; omega
  have hbs : u8s r ++ u8s s = u8s (r ++ s) := by simp [u8s]
  rw [hbs] at hown2
  have hnl : r.length + s.length = (r ++ s).length := by rw [List.length_append]
  rw [hnl] at hown2 hne hlow hb ⊢
  generalize hts : r ++ s = t at hown2 hb hne hlow ⊢
  have HTS := Lib.hid hts; clear hts
  generalize hSL : Value.slice ao t.length c = sl at hown2 hne hlow
  have T3 : Turn (fun k => k = g ∨ v.ownBlock = some k) w (w2.setCell ⟨g, 8, none⟩ (.slice ao t.length c)) := T2.setCell (fun _ => .inl rfl) _
  have G3 : (w2.setCell ⟨g, 8, none⟩ (.slice ao t.length c)).heap[g]? = some (.cells (digC h8 sl a2).toArray 124 (0, 0)) := (heap_set_cell G2).trans (by rw [dig_set8, hSL])
  have O3 : (w2.setCell ⟨g, 8, none⟩ (.slice ao t.length c)).ownsRow 0 5 1 sl t.length (u8s t) := ((Turn.refl (fun k => k = g) w2).setCell (fun _ => rfl) _).own hown2 (fun k hk e => hne (by rw [hk, e]))
  subst hSL
  have HT3 := Lib.hid T3; have HG3 := Lib.hid G3; have HO3 := Lib.hid O3
  have HNE := Lib.hid hne; have HLOW := Lib.hid hlow; have HWR := Lib.hid hwr
  clear hown2 ht2 hb2 G2 T2 hbs hnl O1 HG1 HT1 hne hlow hwr c8 c9 f8 f9 T3 G3 O3
  rcases HO3.out.2 with ⟨h0, hn0⟩ | ⟨gb, cap, cur, hsl, _, hgb, hnc, hcm, hcs, htake⟩
  · have hao : ao = none ∧ c = 0 := by
      have := h0
      simp only [Value.slice.injEq] at this
      exact ⟨this.1, this.2.2⟩
    obtain ⟨rfl, rfl⟩ := hao
    have ht0 : t = [] := List.eq_nil_of_length_eq_zero hn0
    subst ht0
    simp only [List.length_nil] at *
    go_wp2_with fail
    generalize w2.setCell ⟨g, 8, none⟩ (.slice none 0 0) = w3 at *
    clear c82 f82
    go_loopw [4] (fun i wr => i = .int .i64 0 ∧ wr = w3) (fun i _ => 0)
    case atStart => exact ⟨rfl, rfl⟩
    case round =>
      obtain ⟨rfl, rfl⟩ := hrel
      have c8 := dig_rest HG3.out
      have f8 := frozen_of_row _ g 8 _ _ HG3.out
      have hsrc : Src Try.prog 1 61 (.slice none 0 0) 0 [] wr := Src.ofNil wr Try.underlying61 0
      have HSRC := Lib.hid hsrc; clear hsrc
      have hgw : g < wr.heap.size := (Array.getElem?_eq_some_iff.1 HG3.out).1
      go_wp2_with (at_builtin; refine wpList_append_turn _ rfl _ _ 61 61 5 rfl i5 _ 1 1 Try.underlying61 hi hiz hsz hby rfl (.slice none 0 0) _ _ rfl (World.ownsRow_nil _ _ _ _) _ rfl 0 _ HSRC.out ?_ ?_ ?_)
      all_goals first | omega | skip
      intro ao2 c2 w5 hown5 ht5 hb5
      have hpt : Pure wr w5 := ht5.mono fun k _ e => by simp [Value.ownBlock] at e
      have G5 := hpt.obj HG3.out (fun e => e)
      have c85 := dig_rest G5
      have f85 := frozen_of_row w5 g 8 _ _ G5
      have hwl : w.heap.size ≤ wr.heap.size := HT3.out.size
      have hnew : ∀ k, (Value.slice ao2 0 c2).ownBlock = some k → k = wr.heap.size := by
        intro k hk
        rcases hb5.out with e | e
        · rw [e] at hk; simp [Value.ownBlock] at hk
        · rw [e] at hk; exact (Option.some.inj hk).symm
      have T6 : Turn (fun k => k = g ∨ v.ownBlock = some k) w (w5.setCell ⟨g, 8, none⟩ (.slice ao2 0 c2)) := (HT3.out.pure hpt).setCell (fun _ => .inl rfl) _
      have G6 : (w5.setCell ⟨g, 8, none⟩ (.slice ao2 0 c2)).heap[g]? = some (.cells (digC h8 (.slice ao2 0 c2) a2).toArray 124 (0, 0)) := (heap_set_cell G5).trans (by rw [dig_set8])
      have O6 : (w5.setCell ⟨g, 8, none⟩ (.slice ao2 0 c2)).ownsRow 0 5 1 (.slice ao2 0 c2) (restOf []).length (u8s (restOf [])) :=
        ((Turn.refl (fun k => k = g) w5).setCell (fun _ => rfl) _).own hown5 (fun k hk e => by have := hnew k hk; omega)
      have hD6 : Dig (w5.setCell ⟨g, 8, none⟩ (.slice ao2 0 c2)) g h8 (.slice ao2 0 c2) (restOf []) a2 := ⟨G6, O6, fun e => by have := hnew g e; omega⟩
      have HFIN := Lib.hid (And.intro hD6 (And.intro (fun k (hk : (Value.slice ao2 0 c2).ownBlock = some k) => (by have := hnew k hk; omega : w.heap.size ≤ k)) T6))
      clear hD6 O6 G6 T6 hnew hgw G5 hpt hb5 ht5 hown5 c8 f8
      go_wp2
      try simp only [Exit.inBlock, Exit.then]
      exact bodyPost_end (results_none rfl _ _ _) rfl ⟨rfl, _, by rw [HTS.out]; exact HFIN.out⟩
  · obtain ⟨rfl, rfl⟩ : ao = some ⟨gb, 0, none⟩ ∧ c = cap := by simpa using hsl
    have hgg : gb ≠ g := fun e => HNE.out (by rw [e]; rfl)
    clear hsl hgb hcs htake
    go_wp2_with fail
    generalize w2.setCell ⟨g, 8, none⟩ (.slice (some ⟨gb, 0, none⟩) t.length c) = w3 at *
    clear c82 f82
    have hbytes : w3.rangeAt gb 0 (u8s t) := by
      intro j u hj
      have := HO3.out.cells (g := gb) rfl j u hj
      rwa [Addr.add_mid] at this
    have HBY := Lib.hid hbytes; clear hbytes
    obtain ⟨n, hn⟩ : ∃ n, n = t.length / 64 := ⟨_, rfl⟩
    have HN := Lib.hid hn; clear hn
    go_loopw [4] (fun i wr => ∃ k p : Nat, k ≤ n ∧ p = 64 * k ∧ i = .int .i64 (p : Int) ∧ Hid (wr.heap[g]? = some (.cells (digC (blocksV h8 t k) (.slice (some ⟨gb, 0, none⟩) t.length c) a2).toArray 124 (0, 0))) ∧ Turn (fun b => b = g) w3 wr) (fun i _ => t.length - (intOf i).toNat)
    case atStart => exact ⟨0, 0, by omega, rfl, rfl, HG3, Turn.refl _ _⟩
    case round =>
      obtain ⟨k, p, hk, hp, rfl, HC, ht⟩ := hrel
      have hn := HN.out
      have c8 := dig_rest HC.out
      obtain ⟨m, hm⟩ : ∃ m, m = t.length - p := ⟨_, rfl⟩
      have hpl : p ≤ t.length := by omega
      have hw : IntKind.i64.wrap ((t.length : Int) - p) = (m : Int) := by rw [IntWalk.i64_in _ (by omega)]; omega
      by_cases hlk : k < n
      · have q1 : (64 : Int) ≤ m := by omega
        have q2 : (0 : Int) ≤ p := by omega
        have q4 : IntKind.i64.wrap ((p : Int) + 64) = p + 64 := IntWalk.i64_in _ (by omega)
        have q5 : ((p : Int) + 64).toNat = p + 64 := by omega
        have q6 : (0 : Int) ≤ (p : Int) + 64 := by omega
        have q7 : (p : Int) ≤ (p : Int) + 64 := by omega
        have q8 : (p : Int) + 64 ≤ (c : Int) := by omega
        have hbl : (blockAt t k).length = 64 := blockAt_length (by omega)
        have hblk : blocksV h8 t (k + 1) = blockV (blocksV h8 t k) (blockAt t k) := rfl
        have hrg : wr.rangeAt gb p (u8s (blockAt t k)) := by
          intro j u hj
          have hj64 : j < 64 := by have := (List.getElem?_eq_some_iff.1 hj).1; rw [u8s_length, hbl] at this; exact this
          have h2 : (u8s t)[p + j]? = some u := by
            rw [← hj, hp, u8s, u8s, blockAt, List.getElem?_map, List.getElem?_map, List.getElem?_take, if_pos hj64, List.getElem?_drop]
          have := ht.cell (HBY.out (p + j) u h2) (fun e => hgg e)
          rwa [Nat.zero_add] at this
        have HB := Lib.hid (And.intro hbl hblk); clear hbl hblk
        have HRG := Lib.hid hrg; clear hrg
        have HJ := Lib.hid (And.intro hp (And.intro hk (And.intro hlk (And.intro hn hm)))); clear hp hk hlk hn hm
        go_wp2_with fail
        refine (turn_any wr g (blocksV h8 t k) [.slice (some ⟨gb, 0, none⟩) t.length c, .int .i64 (a2 : Int)] (blockAt t k) HB.out.1 gb p (c - p) HRG.out HC.out).mono ?_
        rintro e w4 ⟨rfl, t4, c4⟩
        rw [← HB.out.2] at c4
        have HC4 : Hid (w4.heap[g]? = some (.cells (digC (blocksV h8 t (k + 1)) (.slice (some ⟨gb, 0, none⟩) t.length c) a2).toArray 124 (0, 0))) := Lib.hid c4
        have T4 := Lib.hid (ht.trans t4 fun _ _ e => e)
        clear c4 t4 c8
        go_wp2
        exact ⟨⟨k + 1, p + 64, by have := HJ.out; omega, by have := HJ.out; omega, by go_num, HC4, T4.out⟩, by have := HJ.out; simp [intOf]; omega⟩
      · obtain rfl : k = n := by omega
        have q1 : ¬ ((64 : Int) ≤ m) := by omega
        have q2 : (0 : Int) ≤ p := by omega
        have q3 : (p : Int) ≤ (t.length : Int) := by omega
        have hdrop : restOf t = t.drop p := by rw [restOf, hp, ← hn]
        have hrl := restOf_length t
        obtain ⟨x, hsrc, hif⟩ : ∃ x, Src Try.prog 1 61 (.slice (some ⟨gb, x, none⟩) (t.length - p) (c - p)) (t.length - p) (u8s (restOf t)) wr ∧ (if c = p then (some (⟨gb, 0, none⟩ : Addr)) else some ⟨gb, p, none⟩) = some ⟨gb, x, none⟩ := by
          by_cases hcp : c = p
          · refine ⟨0, Src.ofSlice wr Try.underlying61 _ _ _ _ (by rw [u8s_length, hdrop, List.length_drop]; omega) (fun j u hj => ?_) (u8s_one _), by rw [if_pos hcp]⟩
            have := (List.getElem?_eq_some_iff.1 hj).1
            rw [u8s_length, hdrop, List.length_drop] at this
            omega
          · refine ⟨p, Src.ofSlice wr Try.underlying61 _ _ _ _ (by rw [u8s_length, hdrop, List.length_drop]; omega) (fun j u hj => ?_) (u8s_one _), by rw [if_neg hcp]⟩
            rw [Addr.add_mid]
            have h2 : (u8s t)[p + j]? = some u := by
              rw [← hj, hdrop, u8s, u8s, List.getElem?_map, List.getElem?_map, List.getElem?_drop]
            have := ht.cell (HBY.out (p + j) u h2) (fun e => hgg e)
            rwa [Nat.zero_add] at this
        have HSRC := Lib.hid hsrc; clear hsrc
        have hpm : t.length - p = (restOf t).length := by rw [hdrop, List.length_drop]
        have f8 := frozen_of_row wr g 8 _ _ HC.out
        have T5 : Hid (Turn (fun k => k = g ∨ v.ownBlock = some k) w wr) := Lib.hid (HT3.out.trans ht fun _ _ e => .inl e)
        have hwl : w.heap.size ≤ wr.heap.size := T5.out.size
        have hle : t.length - p ≤ 140737488355328 := by omega
        have HJ := Lib.hid (And.intro hp (And.intro hn (And.intro hm (And.intro hdrop hrl)))); clear hp hn hm hk hlk ht hdrop hrl
        have HPM := Lib.hid hpm; clear hpm
        go_wp2_with (at_builtin; refine wpList_append_turn _ rfl _ _ 61 61 5 rfl i5 _ 1 1 Try.underlying61 hi hiz hsz hby rfl (.slice none 0 0) _ _ rfl (World.ownsRow_nil _ _ _ _) _ rfl (t.length - p) _ HSRC.out ?_ ?_ ?_)
        case refine_1 => omega
        intro ao2 c2 w5 hown5 ht5 hb5
        have hpt : Pure wr w5 := ht5.mono fun k _ e => by simp [Value.ownBlock] at e
        have G5 := hpt.obj HC.out (fun e => e)
        have c85 := dig_rest G5
        have f85 := frozen_of_row w5 g 8 _ _ G5
        have hgw : g < wr.heap.size := (Array.getElem?_eq_some_iff.1 HC.out).1
        have hnew : ∀ k, (Value.slice ao2 (t.length - p) c2).ownBlock = some k → k = wr.heap.size := by
          intro k hk
          rcases hb5.out with e | e
          · rw [e] at hk; simp [Value.ownBlock] at hk
          · rw [e] at hk; exact (Option.some.inj hk).symm
        have T6 : Turn (fun k => k = g ∨ v.ownBlock = some k) w (w5.setCell ⟨g, 8, none⟩ (.slice ao2 (t.length - p) c2)) := (T5.out.pure hpt).setCell (fun _ => .inl rfl) _
        have G6 : (w5.setCell ⟨g, 8, none⟩ (.slice ao2 (t.length - p) c2)).heap[g]? = some (.cells (digC (blocksV h8 t k) (.slice ao2 (t.length - p) c2) a2).toArray 124 (0, 0)) := (heap_set_cell G5).trans (by rw [dig_set8])
        have O6 : (w5.setCell ⟨g, 8, none⟩ (.slice ao2 (t.length - p) c2)).ownsRow 0 5 1 (.slice ao2 (t.length - p) c2) (restOf t).length (u8s (restOf t)) := by
          rw [← HPM.out]
          exact ((Turn.refl (fun k => k = g) w5).setCell (fun _ => rfl) _).own hown5 (fun k hk e => by have := hnew k hk; omega)
        have hD6 : Dig (w5.setCell ⟨g, 8, none⟩ (.slice ao2 (t.length - p) c2)) g (blocksV h8 t k) (.slice ao2 (t.length - p) c2) (restOf t) a2 := ⟨G6, O6, fun e => by have := hnew g e; omega⟩
        have HFIN := Lib.hid (And.intro hD6 (And.intro (fun k (hk : (Value.slice ao2 (t.length - p) c2).ownBlock = some k) => (by have := hnew k hk; omega : w.heap.size ≤ k)) T6))
        clear hD6 O6 G6 T6 hnew hgw G5 hpt hb5 ht5 hown5 hif c8 f8 hw
        go_wp2
        try simp only [Exit.inBlock, Exit.then]
        have hk2 : blocksV h8 t (t.length / 64) = blocksV h8 t k := by rw [HJ.out.2.1]
        exact bodyPost_end (results_none rfl _ _ _) rfl ⟨rfl, _, by rw [HTS.out, hk2]; exact HFIN.out⟩
end Go.Proofs.Ytmifchdmlbcclaa
