/- Chapter 10: a proof's hashes, taken one by one. -/
import Derived.Test.YtjbigghjbcjelaaIncl
namespace Go.Proofs.Ytjbigghjbcjelaa
open Go.RowKit

/-- A row of hashes. -/
def Hashs (w : World) (v : Value) (hs : List (List UInt8)) : Prop :=
  ∃ ao cap, v = .slice ao hs.length cap ∧ hs.length ≤ cap ∧ (hs ≠ [] → ∃ b o, ao = some ⟨b, o, none⟩ ∧ w.rangeAt b o (hrow hs)) ∧ ∀ h ∈ hs, h.length = 32
theorem Hashs.turn {S : Nat → Prop} {w w' : World} {v : Value} {hs : List (List UInt8)} (h : Hashs w v hs) (t : Turn S w w') (hS : hs ≠ [] → ∀ k, v.ownBlock = some k → ¬ S k) : Hashs w' v hs := by
  obtain ⟨ao, cap, rfl, h2, h3, h4⟩ := h
  refine ⟨ao, cap, rfl, h2, fun hne => ?_, h4⟩
  obtain ⟨b, o, rfl, hr⟩ := h3 hne
  exact ⟨b, o, rfl, t.range hr (hS hne b rfl)⟩
/-- A walker in memory. -/
structure WalkAt (w : World) (g : Nat) (v : Value) (hs : List (List UInt8)) (short : Bool) : Prop where
  at_ : w.heap[g]? = some (.cells #[v, .bool short] 74 (0, 0))
  row : Hashs w v hs
  ne : hs ≠ [] → v.ownBlock ≠ some g
theorem WalkAt.c0 {w : World} {g : Nat} {v : Value} {hs : List (List UInt8)} {s : Bool} (h : WalkAt w g v hs s) : w.cell? ⟨g, 0, none⟩ = some v := by rw [cell_of_row w g 0 _ _ _ h.at_]; rfl
theorem WalkAt.c1 {w : World} {g : Nat} {v : Value} {hs : List (List UInt8)} {s : Bool} (h : WalkAt w g v hs s) : w.cell? ⟨g, 1, none⟩ = some (.bool s) := by rw [cell_of_row w g 1 _ _ _ h.at_]; rfl

set_option maxHeartbeats 400000 in
theorem just_any (w : World) (g : Nat) (v : Value) (hs : List (List UInt8)) (s : Bool) (h : WalkAt w g v hs s) :
    Calls Try.prog 51 #[.pointer (some ⟨g, 0, none⟩)] w fun e w' => e = .returned (.bool (!s && hs.isEmpty)) ∧ w' = w := by
  have c0 := h.c0
  have c1 := h.c1
  obtain ⟨ao, cap, rfl, h2, _, _⟩ := h.row
  clear h
  obtain ⟨n, hn⟩ : ∃ n, n = hs.length := ⟨_, rfl⟩
  rw [← hn] at c0 h2
  cases s with
  | true =>
    clear hn
    go_enter Try.func51, Try.ntmps51
    go_wp2
    go_ret
    exact ⟨rfl, rfl⟩
  | false =>
    by_cases h0 : n = 0
    · have he : hs.isEmpty = true := by rw [List.isEmpty_iff]; exact List.eq_nil_of_length_eq_zero (by omega)
      subst h0
      rw [he]
      clear hn he
      go_enter Try.func51, Try.ntmps51
      go_wp2
      go_ret
      exact ⟨rfl, rfl⟩
    · have he : hs.isEmpty = false := by
        cases hs with
        | nil => simp at hn; omega
        | cons a t => rfl
      rw [he]
      have q1 : ((n : Int) == 0) = false := by simp; omega
      have q2 : (n == 0) = false := by simp; omega
      clear hn he
      go_enter Try.func51, Try.ntmps51
      go_wp2
      go_ret
      exact ⟨rfl, rfl⟩
/-- What the walker gives next, and what is left. -/
def nextV (hs : List (List UInt8)) (s : Bool) : List UInt8 × List (List UInt8) × Bool :=
  if s || hs.isEmpty then (List.replicate 32 0, hs, true) else (hs.headD [], hs.tail, false)

set_option maxHeartbeats 1000000 in
theorem next_short (w : World) (g : Nat) (v : Value) (hs : List (List UInt8)) (s : Bool) (h : WalkAt w g v hs s) (hsh : (s || hs.isEmpty) = true) :
    Calls Try.prog 61 #[.pointer (some ⟨g, 0, none⟩)] w fun e w' => e = .returned (hv (List.replicate 32 0)) ∧ WalkAt w' g v hs true ∧ Turn (fun k => k = g) w w' := by
  obtain ⟨X, hXl, HZ⟩ := ex28
  have HW := Lib.hid h
  obtain ⟨ao, cap, rfl, h2, _, _⟩ := h.row
  clear h
  obtain ⟨n, hn⟩ : ∃ n, n = hs.length := ⟨_, rfl⟩
  rw [← hn] at HW h2 ⊢
  have HN := Lib.hid hn; clear hn
  go_enter Try.func61, Try.ntmps61
  go_wp2_with (refine wpList_allocZ rfl 28 rfl X HZ.out ?_)
  intro g0 w1 e0 d0 t0 s0
  have hgl := (Array.getElem?_eq_some_iff.1 HW.out.at_).1
  have l0 : g < g0 := by omega
  have lw : w.heap.size ≤ g0 := by omega
  clear e0
  have hat := t0.obj HW.out.at_ (fun e => e)
  have c0 : w1.cell? ⟨g, 0, none⟩ = _ := t0.cell HW.out.c0 (fun e => e)
  have c1 : w1.cell? ⟨g, 1, none⟩ = _ := t0.cell HW.out.c1 (fun e => e)
  have f1 := frozen_of_row w1 g 1 _ _ hat
  have G2 : (w1.setCell ⟨g, 1, none⟩ (.bool true)).heap[g]? = some (.cells #[.slice ao n cap, .bool true] 74 (0, 0)) := heap_set_cell hat
  have d1 : (w1.setCell ⟨g, 1, none⟩ (.bool true)).cell? ⟨g, 1, none⟩ = some (.bool true) := by rw [cell_of_row _ g 1 _ _ _ G2]; rfl
  have T2 : Turn (fun k => k = g) w (w1.setCell ⟨g, 1, none⟩ (.bool true)) := ((Turn.refl (fun k => k = g) w).pure t0).setCell (fun _ => rfl) _
  have C0 : (w1.setCell ⟨g, 1, none⟩ (.bool true)).heap[g0]? = some (.cells X.toArray 28 (0, 0)) := ((Turn.refl (fun k => k = g) w1).setCell (fun _ => rfl) _).obj d0 (by omega)
  have HG2 := Lib.hid G2; have HT2 := Lib.hid T2; have HC0 := Lib.hid C0
  clear hat G2 T2 C0 d0 t0 s0
  cases s with
  | true =>
    have hz32 : (List.replicate 32 (0 : UInt8)).length = 32 := by simp
    go_wp2_with (refine wpList_store_blk rfl 28 _ _ rfl g0 _ (u8s (List.replicate 32 0)) _ rfl rfl HC0.out (size28 hXl hz32) (info28_l hz32) (u8s_one _) ?_)
    intro w9 c9 t9 _
    have hc9 := Lib.hid c9
    have HT9 := Lib.hid (HT2.out.trans t9 fun i hi e => by omega)
    have hW9 : WalkAt w9 g (.slice ao n cap) hs true := ⟨t9.obj HG2.out (by omega), HW.out.row.turn HT9.out (fun hne k hk e => HW.out.ne hne (by rw [hk, e])), HW.out.ne⟩
    have HW9 := Lib.hid hW9
    clear c9 t9 hW9
    go_wp2
    exact bodyPost_ret (v := hv (List.replicate 32 0)) (results_cell_row Try.results61 _ _ g0 _ (u8s (List.replicate 32 0)).toArray _ _ rfl hc9.out Try.underlying28 rfl (info28_a hz32)) rfl ⟨rfl, HW9.out, HT9.out⟩
  | false =>
    have hn0 : n = 0 := by
      have := HN.out
      rw [Bool.false_or, List.isEmpty_iff] at hsh
      rw [hsh] at this
      simpa using this
    subst hn0
    have hz32 : (List.replicate 32 (0 : UInt8)).length = 32 := by simp
    go_wp2_with (refine wpList_store_blk rfl 28 _ _ rfl g0 _ (u8s (List.replicate 32 0)) _ rfl rfl HC0.out (size28 hXl hz32) (info28_l hz32) (u8s_one _) ?_)
    intro w9 c9 t9 _
    have hc9 := Lib.hid c9
    have HT9 := Lib.hid (HT2.out.trans t9 fun i hi e => by omega)
    have hW9 : WalkAt w9 g (.slice ao 0 cap) hs true := ⟨t9.obj HG2.out (by omega), HW.out.row.turn HT9.out (fun hne k hk e => HW.out.ne hne (by rw [hk, e])), HW.out.ne⟩
    have HW9 := Lib.hid hW9
    clear c9 t9 hW9
    go_wp2
    exact bodyPost_ret (v := hv (List.replicate 32 0)) (results_cell_row Try.results61 _ _ g0 _ (u8s (List.replicate 32 0)).toArray _ _ rfl hc9.out Try.underlying28 rfl (info28_a hz32)) rfl ⟨rfl, HW9.out, HT9.out⟩

set_option maxHeartbeats 1000000 in
theorem next_head (w : World) (g : Nat) (v : Value) (x : List UInt8) (hs : List (List UInt8)) (h : WalkAt w g v (x :: hs) false) (hlen : hs.length ≤ 4398046510976) :
    Calls Try.prog 61 #[.pointer (some ⟨g, 0, none⟩)] w fun e w' => ∃ v', e = .returned (hv x) ∧ WalkAt w' g v' hs false ∧ v'.ownBlock = v.ownBlock ∧ Turn (fun k => k = g) w w' := by
  obtain ⟨X, hXl, HZ⟩ := ex28
  have HW := Lib.hid h
  obtain ⟨ao, cap, rfl, h2, h3, h4⟩ := h.row
  have hne := h.ne (by simp)
  clear h
  obtain ⟨b, o, rfl, hr⟩ := h3 (by simp)
  have hx : x.length = 32 := h4 x (by simp)
  have hbg : b ≠ g := fun e => hne (by rw [e]; rfl)
  have hrx : w.rangeAt b o (u8s x) := fun j u hj => hr j u (by
    simp only [hrow, List.flatMap_cons]
    rw [List.getElem?_append_left (List.getElem?_eq_some_iff.1 hj).1, hj])
  have hrt : w.rangeAt b (o + 32) (hrow hs) := fun j u hj => by
    rw [Nat.add_assoc]
    refine hr _ u ?_
    simp only [hrow, List.flatMap_cons]
    rw [List.getElem?_append_right (by rw [u8s_length, hx]; omega), u8s_length, hx, show 32 + j - 32 = j from by omega]
    exact hj
  obtain ⟨m, hm⟩ : ∃ m, m = hs.length := ⟨_, rfl⟩
  have hxs : (x :: hs).length = m + 1 := by rw [List.length_cons, hm]
  rw [hxs] at HW h2 ⊢
  rw [← hm] at hlen
  have HRX := Lib.hid hrx; have HRT := Lib.hid hrt; have H4 := Lib.hid h4; have HM := Lib.hid hm
  clear hrx hrt hr h3 h4 hne hxs hm
  obtain ⟨n, hn⟩ : ∃ n, n = m + 1 := ⟨_, rfl⟩
  rw [← hn] at HW h2 ⊢
  have HN := Lib.hid hn; 
  have q1 : ((n : Int) == 0) = false := by simp; omega
  have q2 : (n == 0) = false := by simp; omega
  have q3 : (0 : Int) < n := by omega
  have q4 : (1 : Int) ≤ n := by omega
  clear hn
  go_enter Try.func61, Try.ntmps61
  go_wp2_with (refine wpList_allocZ rfl 28 rfl X HZ.out ?_)
  intro g0 w1 e0 d0 t0 s0
  have hgl := (Array.getElem?_eq_some_iff.1 HW.out.at_).1
  have l0 : g < g0 := by omega
  have lw : w.heap.size ≤ g0 := by omega
  have hbl : b < w.heap.size := by
    have hx0 : (u8s x)[0]? = some (u8 (x.getD 0 0)) := by simp [u8s, List.getD, show 0 < x.length by omega]
    exact World.block_lt_of_cell? w _ (HRX.out 0 _ hx0)
  clear e0
  have hat := t0.obj HW.out.at_ (fun e => e)
  have c0 : w1.cell? ⟨g, 0, none⟩ = _ := t0.cell HW.out.c0 (fun e => e)
  have c1 : w1.cell? ⟨g, 1, none⟩ = _ := t0.cell HW.out.c1 (fun e => e)
  have f1 := frozen_of_row w1 g 1 _ _ hat
  have G2 : (w1.setCell ⟨g, 1, none⟩ (.bool false)).heap[g]? = some (.cells #[.slice (some ⟨b, o, none⟩) n cap, .bool false] 74 (0, 0)) := heap_set_cell hat
  have d1 : (w1.setCell ⟨g, 1, none⟩ (.bool false)).cell? ⟨g, 1, none⟩ = some (.bool false) := by rw [cell_of_row _ g 1 _ _ _ G2]; rfl
  have d2 : (w1.setCell ⟨g, 1, none⟩ (.bool false)).cell? ⟨g, 0, none⟩ = some (.slice (some ⟨b, o, none⟩) n cap) := by rw [cell_of_row _ g 0 _ _ _ G2]; rfl
  have T2 : Turn (fun k => k = g) w (w1.setCell ⟨g, 1, none⟩ (.bool false)) := ((Turn.refl (fun k => k = g) w).pure t0).setCell (fun _ => rfl) _
  have C0 : (w1.setCell ⟨g, 1, none⟩ (.bool false)).heap[g0]? = some (.cells X.toArray 28 (0, 0)) := ((Turn.refl (fun k => k = g) w1).setCell (fun _ => rfl) _).obj d0 (by omega)
  have s2 : (w1.setCell ⟨g, 1, none⟩ (.bool false)).heap.size = w1.heap.size := by simp [World.setCell]
  have HG2 := Lib.hid G2; have HT2 := Lib.hid T2; have HC0 := Lib.hid C0
  clear hat G2 T2 C0 d0 t0
  go_upto_region 4 with fail
  generalize w1.setCell ⟨g, 1, none⟩ (.bool false) = w2 at *
  have HR2 := Lib.hid (HT2.out.range HRX.out (by omega))
  go_wp2_with (first | (refine wpList_load_mid rfl 28 _ rfl b o rfl (u8s x) _ HR2.out Try.underlying28 rfl (info28_l hx) ?_) | (refine wpList_allocZ rfl 28 rfl X HZ.out ?_))
  intro g3 w3 e3 d3 t3 s3
  have l3 : g0 < g3 := by omega
  clear e3
  have HG3 := Lib.hid (t3.obj HG2.out (fun e => e)); have HC3 := Lib.hid (t3.obj HC0.out (fun e => e)); have HT3 := Lib.hid (HT2.out.pure t3)
  clear t3 HG2 HC0 HT2 HR2 s3
  go_wp2_with (refine wpList_store_blk rfl 28 _ _ rfl g3 _ (u8s x) _ rfl rfl d3 (size28 hXl hx) (info28_l hx) (u8s_one _) ?_)
  intro w4 d4 t4 _
  have hat4 := t4.obj HG3.out (by omega)
  have HC4 := Lib.hid (t4.obj HC3.out (by omega)); have HT4 := Lib.hid (HT3.out.trans t4 fun i hi e => by omega)
  have HD4 := Lib.hid d4
  clear d3 d4 t4 HG3 HC3 HT3 d1 d2
  have c0 : w4.cell? ⟨g, 0, none⟩ = some (.slice (some ⟨b, o, none⟩) n cap) := by rw [cell_of_row w4 g 0 _ _ _ hat4]; rfl
  have f0 := frozen_of_row w4 g 0 _ _ hat4
  obtain ⟨o2, hif, ho2⟩ : ∃ o2, (if cap = 1 then (some (⟨b, o, none⟩ : Addr)) else some ⟨b, o + 32, none⟩) = some ⟨b, o2, none⟩ ∧ (cap ≠ 1 → o2 = o + 32) := by
    by_cases hc : cap = 1
    · exact ⟨o, by rw [if_pos hc], fun h => absurd hc h⟩
    · exact ⟨o + 32, by rw [if_neg hc], fun _ => rfl⟩
  have G5 : (w4.setCell ⟨g, 0, none⟩ (.slice (some ⟨b, o2, none⟩) (n - 1) (cap - 1))).heap[g]? = some (.cells #[.slice (some ⟨b, o2, none⟩) (n - 1) (cap - 1), .bool false] 74 (0, 0)) := heap_set_cell hat4
  have T5 : Turn (fun k => k = g) w (w4.setCell ⟨g, 0, none⟩ (.slice (some ⟨b, o2, none⟩) (n - 1) (cap - 1))) := HT4.out.setCell (fun _ => rfl) _
  have tg := (Turn.refl (fun k => k = g) w4).setCell (p := ⟨g, 0, none⟩) (fun _ => rfl) (.slice (some ⟨b, o2, none⟩) (n - 1) (cap - 1))
  have C5 := tg.obj HC4.out (by omega)
  have D5 := tg.obj HD4.out (by omega)
  have HG5 := Lib.hid G5; have HT5 := Lib.hid T5; have HC5 := Lib.hid C5; have HD5 := Lib.hid D5
  have HO2 := Lib.hid ho2
  clear G5 T5 C5 D5 tg HC4 HT4 HD4 hat4 ho2
  go_upto_region 6 with fail
  generalize w4.setCell ⟨g, 0, none⟩ (.slice (some ⟨b, o2, none⟩) (n - 1) (cap - 1)) = w5 at *
  clear c0 f0 hif
  go_wp2_with (first | (refine wpList_load_row rfl 28 _ rfl g3 rfl _ (u8s x).toArray _ _ HD5.out Try.underlying28 rfl (info28_a hx) ?_) | (refine wpList_store_blk rfl 28 _ _ rfl g0 _ (u8s x) _ rfl rfl HC5.out (size28 hXl hx) (info28_l hx) (u8s_one _) ?_))
  intro w9 c9 t9 _
  have hc9 := Lib.hid c9
  have HT9 := Lib.hid (HT5.out.trans t9 fun i hi e => by omega)
  have hrow : Hashs w9 (.slice (some ⟨b, o2, none⟩) (n - 1) (cap - 1)) hs := by
    have hm := HM.out
    have hnn := HN.out
    refine ⟨_, cap - 1, by rw [show n - 1 = hs.length from by omega], by omega, fun hne => ?_, fun y hy => H4.out y (by simp [hy])⟩
    have : 1 ≤ hs.length := List.length_pos_iff.2 hne
    refine ⟨b, o2, rfl, ?_⟩
    rw [HO2.out (by omega)]
    exact HT9.out.range HRT.out (by omega)
  have hW9 : WalkAt w9 g (.slice (some ⟨b, o2, none⟩) (n - 1) (cap - 1)) hs false := ⟨t9.obj HG5.out (by omega), hrow, fun _ e => hbg (Option.some.inj e)⟩
  have HW9 := Lib.hid hW9
  clear c9 t9 hW9 hrow
  go_wp2
  exact bodyPost_ret (v := hv x) (results_cell_row Try.results61 _ _ g0 _ (u8s x).toArray _ _ rfl hc9.out Try.underlying28 rfl (info28_a hx)) rfl ⟨_, rfl, HW9.out, rfl, HT9.out⟩
end Go.Proofs.Ytjbigghjbcjelaa
