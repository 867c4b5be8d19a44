/- Chapter 10: the roots that a proof of consistency makes (the program's walker). -/
import Derived.Test.YtjbigghjbcjelaaCons
namespace Go.Proofs.Ytjbigghjbcjelaa
open Go.RowKit

/-- Two results, each in memory. -/
theorem results_cc {P : Program} {fn : Func} {p q : Tmp} {ty : TypeId} (h : fn.results = #[.cell p ty, .cell q ty]) (tmps : Array Value) (w : World) (g g' : Nat) (cs cs' : Array Value) (d : TypeDesc)
    (hp : tmps.getD p undef = .pointer (some ⟨g, 0, none⟩)) (hq : tmps.getD q undef = .pointer (some ⟨g', 0, none⟩)) (hg : w.heap[g]? = some (.cells cs ty (0, 0))) (hg' : w.heap[g']? = some (.cells cs' ty (0, 0)))
    (hu : P.underlying ty = some d) (hd : (match d with | .struct _ | .array _ _ => true | _ => false) = true) (hi : (P.info? ty).map (·.size) = some cs.size) (hi' : (P.info? ty).map (·.size) = some cs'.size) :
    (results fn tmps).run P w = .ok (.tuple #[.agg cs, .agg cs']) w := by
  have hp' : tmps[p]?.getD undef = .pointer (some ⟨g, 0, none⟩) := by simpa using hp
  have hq' : tmps[q]?.getD undef = .pointer (some ⟨g', 0, none⟩) := by simpa using hq
  simp [results, h, hp', hq', asAddr, run_loadVar_row w g ty ty cs (0, 0) d hg hu hd hi, run_loadVar_row w g' ty ty cs' (0, 0) d hg' hu hd hi']
/-- Two results in memory and one that is not. -/
theorem results_cct {P : Program} {fn : Func} {p q u : Tmp} {ty : TypeId} (h : fn.results = #[.cell p ty, .cell q ty, .tmp u]) (tmps : Array Value) (w : World) (g g' : Nat) (cs cs' : Array Value) (d : TypeDesc)
    (hp : tmps.getD p undef = .pointer (some ⟨g, 0, none⟩)) (hq : tmps.getD q undef = .pointer (some ⟨g', 0, none⟩)) (hg : w.heap[g]? = some (.cells cs ty (0, 0))) (hg' : w.heap[g']? = some (.cells cs' ty (0, 0)))
    (hu : P.underlying ty = some d) (hd : (match d with | .struct _ | .array _ _ => true | _ => false) = true) (hi : (P.info? ty).map (·.size) = some cs.size) (hi' : (P.info? ty).map (·.size) = some cs'.size) :
    (results fn tmps).run P w = .ok (.tuple #[.agg cs, .agg cs', tmps.getD u undef]) w := by
  have hp' : tmps[p]?.getD undef = .pointer (some ⟨g, 0, none⟩) := by simpa using hp
  have hq' : tmps[q]?.getD undef = .pointer (some ⟨g', 0, none⟩) := by simpa using hq
  simp [results, h, hp', hq', asAddr, run_loadVar_row w g ty ty cs (0, 0) d hg hu hd hi, run_loadVar_row w g' ty ty cs' (0, 0) d hg' hu hd hi']

/-- A walker whose blocks lie below N. -/
structure WalkN (N : Nat) (w : World) (g : Nat) (v : Value) (hs : List (List UInt8)) (s : Bool) : Prop where
  at_ : WalkAt w g v hs s
  lt : g < N
  low : hs ≠ [] → ∀ q, v.ownBlock = some q → q < N
  few : hs.length ≤ 4398046510976
theorem WalkN.pure {N : Nat} {w w' : World} {g : Nat} {v : Value} {hs : List (List UInt8)} {s : Bool} (h : WalkN N w g v hs s) (t : Pure w w') : WalkN N w' g v hs s :=
  ⟨⟨t.obj h.at_.at_ (fun e => e), h.at_.row.turn t (fun _ _ _ e => e), h.at_.ne⟩, h.lt, h.low, h.few⟩
theorem WalkN.store {N : Nat} {w w' : World} {g G : Nat} {v : Value} {hs : List (List UInt8)} {s : Bool} (h : WalkN N w g v hs s) (t : Turn (fun k => k = G) w w') (hG : N ≤ G) : WalkN N w' g v hs s :=
  ⟨⟨t.obj h.at_.at_ (by have := h.lt; omega), h.at_.row.turn t (fun hne q hq e => by have := h.low hne q hq; omega), h.at_.ne⟩, h.lt, h.low, h.few⟩
theorem next_N {N : Nat} (w : World) (g : Nat) (v : Value) (hs : List (List UInt8)) (s : Bool) (h : WalkN N w g v hs s) :
    Calls Try.prog 61 #[.pointer (some ⟨g, 0, none⟩)] w fun e w' => ∃ v', e = .returned (hv (nextV hs s).1) ∧ WalkN N w' g v' (nextV hs s).2.1 (nextV hs s).2.2 ∧ Turn (fun k => k = g) w w' := by
  refine (next_any w g v hs s h.at_ h.few).mono ?_
  rintro e w' ⟨v', he, h1, h2, h3⟩
  have hl := nextV_len hs s
  exact ⟨v', he, ⟨h1, h.lt, fun hne q hq => h.low (fun e => hne (List.eq_nil_of_length_eq_zero (by subst e; simpa using hl))) q (by rw [← h2]; exact hq), by have := h.few; omega⟩, h3⟩

/-- The roots of the smaller log and of the whole, and what is left of the proof. -/
def bothV (m size : Nat) (old : List UInt8) (known : Bool) (hs : List (List UInt8)) (s : Bool) : List UInt8 × List UInt8 × List (List UInt8) × Bool :=
  if m = size then (if known = true then (old, old, hs, s) else ((nextV hs s).1, (nextV hs s).1, (nextV hs s).2))
  else if _h : 2 ≤ size then
    if m ≤ belowV size then
      ((bothV m (belowV size) old known hs s).1, joinV (bothV m (belowV size) old known hs s).2.1 (nextV (bothV m (belowV size) old known hs s).2.2.1 (bothV m (belowV size) old known hs s).2.2.2).1, (nextV (bothV m (belowV size) old known hs s).2.2.1 (bothV m (belowV size) old known hs s).2.2.2).2)
    else
      (joinV (nextV (bothV (m - belowV size) (size - belowV size) old false hs s).2.2.1 (bothV (m - belowV size) (size - belowV size) old false hs s).2.2.2).1 (bothV (m - belowV size) (size - belowV size) old false hs s).1, joinV (nextV (bothV (m - belowV size) (size - belowV size) old false hs s).2.2.1 (bothV (m - belowV size) (size - belowV size) old false hs s).2.2.2).1 (bothV (m - belowV size) (size - belowV size) old false hs s).2.1, (nextV (bothV (m - belowV size) (size - belowV size) old false hs s).2.2.1 (bothV (m - belowV size) (size - belowV size) old false hs s).2.2.2).2)
  else (old, old, hs, s)
termination_by size
decreasing_by
  all_goals first | exact belowV_lt _h | (have := belowV_pos size; omega)
theorem bothV_known (size : Nat) (old : List UInt8) (hs : List (List UInt8)) (s : Bool) : bothV size size old true hs s = (old, old, hs, s) := by rw [bothV, if_pos rfl, if_pos rfl]
theorem bothV_new (size : Nat) (old : List UInt8) (hs : List (List UInt8)) (s : Bool) : bothV size size old false hs s = ((nextV hs s).1, (nextV hs s).1, (nextV hs s).2) := by rw [bothV, if_pos rfl, if_neg (by decide)]
theorem bothV_left {m size : Nat} (old : List UInt8) (known : Bool) (hs : List (List UInt8)) (s : Bool) (h2 : 2 ≤ size) (hne : m ≠ size) (hi : m ≤ belowV size) : bothV m size old known hs s =
    ((bothV m (belowV size) old known hs s).1, joinV (bothV m (belowV size) old known hs s).2.1 (nextV (bothV m (belowV size) old known hs s).2.2.1 (bothV m (belowV size) old known hs s).2.2.2).1, (nextV (bothV m (belowV size) old known hs s).2.2.1 (bothV m (belowV size) old known hs s).2.2.2).2) := by
  rw [bothV, if_neg hne, dif_pos h2, if_pos hi]
theorem bothV_right {m size : Nat} (old : List UInt8) (known : Bool) (hs : List (List UInt8)) (s : Bool) (h2 : 2 ≤ size) (hne : m ≠ size) (hi : ¬ m ≤ belowV size) : bothV m size old known hs s =
    (joinV (nextV (bothV (m - belowV size) (size - belowV size) old false hs s).2.2.1 (bothV (m - belowV size) (size - belowV size) old false hs s).2.2.2).1 (bothV (m - belowV size) (size - belowV size) old false hs s).1, joinV (nextV (bothV (m - belowV size) (size - belowV size) old false hs s).2.2.1 (bothV (m - belowV size) (size - belowV size) old false hs s).2.2.2).1 (bothV (m - belowV size) (size - belowV size) old false hs s).2.1, (nextV (bothV (m - belowV size) (size - belowV size) old false hs s).2.2.1 (bothV (m - belowV size) (size - belowV size) old false hs s).2.2.2).2) := by
  rw [bothV, if_neg hne, dif_pos h2, if_neg hi]
theorem bothV_ok : ∀ (size m : Nat) (old : List UInt8) (known : Bool) (hs : List (List UInt8)) (s : Bool), old.length = 32 → (∀ x ∈ hs, x.length = 32) → (bothV m size old known hs s).1.length = 32 ∧ (bothV m size old known hs s).2.1.length = 32 ∧ (∀ x ∈ (bothV m size old known hs s).2.2.1, x.length = 32) := by
  intro size
  induction size using Nat.strongRecOn with
  | _ size ih =>
    intro m old known hs s ho hx
    by_cases he : m = size
    · subst he
      cases known with
      | true => rw [bothV_known]; exact ⟨ho, ho, hx⟩
      | false => rw [bothV_new]; exact ⟨(nextV_ok hs s hx).1, (nextV_ok hs s hx).1, (nextV_ok hs s hx).2⟩
    · by_cases h2 : 2 ≤ size
      · have hk1 := belowV_lt h2
        have hk0 := belowV_pos size
        by_cases hi : m ≤ belowV size
        · obtain ⟨a1, a2, a3⟩ := ih (belowV size) hk1 m old known hs s ho hx
          rw [bothV_left old known hs s h2 he hi]
          exact ⟨a1, joinV_length _ _, (nextV_ok _ _ a3).2⟩
        · obtain ⟨a1, a2, a3⟩ := ih (size - belowV size) (by omega) (m - belowV size) old false hs s ho hx
          rw [bothV_right old known hs s h2 he hi]
          exact ⟨joinV_length _ _, joinV_length _ _, (nextV_ok _ _ a3).2⟩
      · rw [bothV, if_neg he, dif_neg h2]; exact ⟨ho, ho, hx⟩

set_option maxRecDepth 100000 in
set_option maxHeartbeats 1000000 in
theorem both_known (w : World) (N g : Nat) (v : Value) (hs : List (List UInt8)) (s : Bool) (old : List UInt8) (size : Nat) (hN : N ≤ w.heap.size) (hw : WalkN N w g v hs s) (ho : old.length = 32) :
    Calls Try.prog 55 #[.pointer (some ⟨g, 0, none⟩), .int .i64 (size : Int), .int .i64 (size : Int), hv old, .bool true] w fun e w' => ∃ v', e = .returned (.tuple #[hv old, hv old]) ∧ WalkN N w' g v' hs s ∧ Turn (fun k => k = g) w w' := by
  obtain ⟨X, hXl, HZ⟩ := ex28
  have HW0 := Lib.hid hw
  have hgN := hw.lt
  clear hw
  have hu28 := Try.underlying28
  go_enter Try.func55, Try.ntmps55
  go_wp2_with (refine wpList_boxV rfl 28 _ rfl (u8s old) rfl ?_)
  intro g8 w1 e1 c1 t1 s1
  have l8 : w.heap.size ≤ g8 := by omega
  clear e1
  go_wp2_with (refine wpList_allocZ rfl 28 rfl X HZ.out ?_)
  intro g10 w2 e2 c2 t2 s2
  have l10 : g8 < g10 := by omega
  clear e2
  go_wp2_with (refine wpList_allocZ rfl 28 rfl X HZ.out ?_)
  intro g11 w3 e3 c3 t3 s3
  have l11 : g10 < g11 := by omega
  clear e3
  have D8 := Lib.hid (t3.obj (t2.obj c1 (fun e => e)) (fun e => e)); have Cg10 := Lib.hid (t3.obj c2 (fun e => e)); have Cg11 := Lib.hid c3
  have PT := Lib.hid ((((Turn.refl (fun k => k = g) w).pure t1).pure t2).pure t3)
  have HW := Lib.hid (((HW0.out.pure t1).pure t2).pure t3)
  have s3g : g11 < w3.heap.size := by omega
  clear c1 c2 c3 t1 t2 t3 s1 s2 s3 HW0
  go_wp2_with fail
  refine wp_region_held_drew (S := fun w' => w'.rangeAt g8 0 (u8s old)) (by kernel_rfl) (show w3.drew.rangeAt g8 0 (u8s old) from range_of_row D8.out) (fun _ => ?_)
  have PT9 : Hid (Turn (fun k => k = g) w w3.drew) := Lib.hid PT.out.drew
  have HW9 : Hid (WalkN N w3.drew g v hs s) := Lib.hid (HW.out.pure (Turn.refl _ _).drew)
  have D89 : Hid (w3.drew.heap[g8]? = some (.cells (u8s old).toArray 28 (0, 0))) := Lib.hid D8.out
  have Cg109 : Hid (w3.drew.heap[g10]? = some (.cells X.toArray 28 (0, 0))) := Lib.hid Cg10.out
  have Cg119 : Hid (w3.drew.heap[g11]? = some (.cells X.toArray 28 (0, 0))) := Lib.hid Cg11.out
  clear PT HW D8 Cg10 Cg11
  have PT := Lib.hid PT9.out
  have HW := Lib.hid HW9.out
  have D8 := Lib.hid D89.out
  have Cg10 := Lib.hid Cg109.out
  have Cg11 := Lib.hid Cg119.out
  clear PT9 HW9 D89 Cg109 Cg119
  generalize w3.drew = w5 at *
  refine wpAnyH_take (i := 0) (v := hv old) rfl (by kernel_rfl) (by kernel_rfl) (by kernel_rfl) (fun _ _ _ h => h) (yieldsIf_load_mid (by rfl) 28 _ rfl g8 0 rfl (u8s old) _ (fun w h => h) hu28 rfl (info28_l ho)) (range_of_row D8.out) ?_
  simp only [List.getElem_toArray, List.getElem_cons_zero, Act.put, List.setIfInBounds_toArray, List.set_cons_zero, List.set_cons_succ]
  refine wpAnyH_take (i := 1) (v := hv old) rfl (by kernel_rfl) (by kernel_rfl) (by kernel_rfl) (fun _ _ _ h => h) (yieldsIf_load_mid (by rfl) 28 _ rfl g8 0 rfl (u8s old) _ (fun w h => h) hu28 rfl (info28_l ho)) (range_of_row D8.out) ?_
  simp only [List.getElem_toArray, List.getElem_cons_succ, List.getElem_cons_zero, Act.put, List.setIfInBounds_toArray, List.set_cons_zero, List.set_cons_succ]
  refine wpAnyH_step (i := 2) (by kernel_rfl) rfl fun K hK => ?_
  refine step_store_blk rfl 28 _ _ rfl g10 _ (u8s old) _ rfl rfl Cg10.out (size28 hXl ho) (info28_l ho) (u8s_one _) ?_
  intro w9 c9 t9 s9
  have PT9 : Hid (Turn (fun k => k = g) w w9) := Lib.hid (PT.out.trans t9 (fun q hq e => by omega))
  have HW9 : Hid (WalkN N w9 g v hs s) := Lib.hid (HW.out.store t9 (by omega))
  have D89 : Hid (w9.heap[g8]? = some (.cells (u8s old).toArray 28 (0, 0))) := Lib.hid (t9.obj D8.out (by omega))
  have Cg119 : Hid (w9.heap[g11]? = some (.cells X.toArray 28 (0, 0))) := Lib.hid (t9.obj Cg11.out (by omega))
  have Cg109 := Lib.hid c9
  clear PT HW D8 Cg11 Cg10
  have PT := Lib.hid PT9.out
  have HW := Lib.hid HW9.out
  have D8 := Lib.hid D89.out
  have Cg11 := Lib.hid Cg119.out
  have Cg10 := Lib.hid Cg109.out
  clear PT9 HW9 D89 Cg119 Cg109
  refine hK.out _ _ (range_of_row D8.out) ?_
  clear hK K t9 c9 s9
  try simp only [List.getElem_toArray, List.getElem_cons_succ, List.getElem_cons_zero, Act.put]
  refine wpAnyH_step (i := 3) (by kernel_rfl) rfl fun K hK => ?_
  refine step_store_blk rfl 28 _ _ rfl g11 _ (u8s old) _ rfl rfl Cg11.out (size28 hXl ho) (info28_l ho) (u8s_one _) ?_
  intro w9 c9 t9 s9
  have PT9 : Hid (Turn (fun k => k = g) w w9) := Lib.hid (PT.out.trans t9 (fun q hq e => by omega))
  have HW9 : Hid (WalkN N w9 g v hs s) := Lib.hid (HW.out.store t9 (by omega))
  have D89 : Hid (w9.heap[g8]? = some (.cells (u8s old).toArray 28 (0, 0))) := Lib.hid (t9.obj D8.out (by omega))
  have Cg109 : Hid (w9.heap[g10]? = some (.cells (u8s old).toArray 28 (0, 0))) := Lib.hid (t9.obj Cg10.out (by omega))
  have Cg119 := Lib.hid c9
  clear PT HW D8 Cg10 Cg11
  have PT := Lib.hid PT9.out
  have HW := Lib.hid HW9.out
  have D8 := Lib.hid D89.out
  have Cg10 := Lib.hid Cg109.out
  have Cg11 := Lib.hid Cg119.out
  clear PT9 HW9 D89 Cg109 Cg119
  refine hK.out _ _ (range_of_row D8.out) ?_
  clear hK K t9 c9 s9
  try simp only [List.getElem_toArray, List.getElem_cons_succ, List.getElem_cons_zero, Act.put]
  refine wpAnyH_done (by kernel_rfl) ?_ _
  go_wp2
  exact bodyPost_ret (v := .tuple #[hv old, hv old]) (results_cc Try.results55 _ _ g10 g11 (u8s old).toArray (u8s old).toArray _ rfl rfl Cg10.out Cg11.out hu28 rfl (info28_a ho) (info28_a ho)) rfl ⟨_, rfl, HW.out, PT.out⟩

set_option maxRecDepth 100000 in
set_option maxHeartbeats 1000000 in
theorem both_new (w : World) (N g : Nat) (v : Value) (hs : List (List UInt8)) (s : Bool) (old : List UInt8) (size : Nat) (hN : N ≤ w.heap.size) (hw : WalkN N w g v hs s) (ho : old.length = 32) :
    Calls Try.prog 55 #[.pointer (some ⟨g, 0, none⟩), .int .i64 (size : Int), .int .i64 (size : Int), hv old, .bool false] w fun e w' => ∃ v', e = .returned (.tuple #[hv (nextV hs s).1, hv (nextV hs s).1]) ∧ WalkN N w' g v' (nextV hs s).2.1 (nextV hs s).2.2 ∧ Turn (fun k => k = g) w w' := by
  obtain ⟨X, hXl, HZ⟩ := ex28
  have HW0 := Lib.hid hw
  have hgN := hw.lt
  clear hw
  have hu28 := Try.underlying28
  have hx : ∀ x ∈ hs, x.length = 32 := by obtain ⟨_, _, _, _, _, h4⟩ := HW0.out.at_.row; exact h4
  have hq := (nextV_ok hs s hx).1
  go_enter Try.func55, Try.ntmps55
  go_wp2_with (refine wpList_boxV rfl 28 _ rfl (u8s old) rfl ?_)
  intro g8 w1 e1 c1 t1 s1
  have l8 : w.heap.size ≤ g8 := by omega
  clear e1
  go_wp2_with (refine wpList_allocZ rfl 28 rfl X HZ.out ?_)
  intro g10 w2 e2 c2 t2 s2
  have l10 : g8 < g10 := by omega
  clear e2
  go_wp2_with (refine wpList_allocZ rfl 28 rfl X HZ.out ?_)
  intro g11 w3 e3 c3 t3 s3
  have l11 : g10 < g11 := by omega
  clear e3
  have D8 := Lib.hid (t3.obj (t2.obj c1 (fun e => e)) (fun e => e)); have Cg10 := Lib.hid (t3.obj c2 (fun e => e)); have Cg11 := Lib.hid c3
  have PT := Lib.hid ((((Turn.refl (fun k => k = g) w).pure t1).pure t2).pure t3)
  have HW := Lib.hid (((HW0.out.pure t1).pure t2).pure t3)
  have s3g : g11 < w3.heap.size := by omega
  clear c1 c2 c3 t1 t2 t3 s1 s2 s3 HW0
  go_wp2_with fail
  refine (next_N _ g v hs s HW.out).mono ?_
  rintro e w4 ⟨v4, rfl, h4, t4⟩
  generalize hQ : nextV hs s = q at *
  obtain ⟨x, hs4, s4⟩ := q
  dsimp only at h4 hq ⊢
  have HQ := Lib.hid hQ
  have HW4 := Lib.hid h4; have PT4 := Lib.hid (PT.out.trans t4 fun _ _ e => e); have D84 := Lib.hid (t4.obj D8.out (by omega)); have C104 := Lib.hid (t4.obj Cg10.out (by omega)); have C114 := Lib.hid (t4.obj Cg11.out (by omega))
  clear hQ h4 t4 HW PT D8 Cg10 Cg11
  go_wp2_with (refine wpList_store_blk rfl 28 _ _ rfl g8 _ (u8s x) _ rfl rfl D84.out (by rw [List.size_toArray, u8s_length, u8s_length, ho, hq]) (info28_l hq) (u8s_one _) ?_)
  intro w6 c6 t6 _
  have D8 := Lib.hid c6; have HW := Lib.hid (HW4.out.store t6 (by omega)); have PT := Lib.hid (PT4.out.trans t6 fun q hq e => by omega : Turn (fun k => k = g) w w6); have Cg10 := Lib.hid (t6.obj C104.out (by omega)); have Cg11 := Lib.hid (t6.obj C114.out (by omega))
  clear c6 t6 HW4 PT4 D84 C104 C114
  go_wp2_with fail
  refine wp_region_held_drew (S := fun w' => w'.rangeAt g8 0 (u8s x)) (by kernel_rfl) (show w6.drew.rangeAt g8 0 (u8s x) from range_of_row D8.out) (fun _ => ?_)
  have PT9 : Hid (Turn (fun k => k = g) w w6.drew) := Lib.hid PT.out.drew
  have HW9 : Hid (WalkN N w6.drew g v4 hs4 s4) := Lib.hid (HW.out.pure (Turn.refl _ _).drew)
  have D89 : Hid (w6.drew.heap[g8]? = some (.cells (u8s x).toArray 28 (0, 0))) := Lib.hid D8.out
  have Cg109 : Hid (w6.drew.heap[g10]? = some (.cells X.toArray 28 (0, 0))) := Lib.hid Cg10.out
  have Cg119 : Hid (w6.drew.heap[g11]? = some (.cells X.toArray 28 (0, 0))) := Lib.hid Cg11.out
  clear PT HW D8 Cg10 Cg11
  have PT := Lib.hid PT9.out
  have HW := Lib.hid HW9.out
  have D8 := Lib.hid D89.out
  have Cg10 := Lib.hid Cg109.out
  have Cg11 := Lib.hid Cg119.out
  clear PT9 HW9 D89 Cg109 Cg119
  generalize w6.drew = w5 at *
  refine wpAnyH_take (i := 0) (v := hv x) rfl (by kernel_rfl) (by kernel_rfl) (by kernel_rfl) (fun _ _ _ h => h) (yieldsIf_load_mid (by rfl) 28 _ rfl g8 0 rfl (u8s x) _ (fun w h => h) hu28 rfl (info28_l hq)) (range_of_row D8.out) ?_
  simp only [List.getElem_toArray, List.getElem_cons_zero, Act.put, List.setIfInBounds_toArray, List.set_cons_zero, List.set_cons_succ]
  refine wpAnyH_take (i := 1) (v := hv x) rfl (by kernel_rfl) (by kernel_rfl) (by kernel_rfl) (fun _ _ _ h => h) (yieldsIf_load_mid (by rfl) 28 _ rfl g8 0 rfl (u8s x) _ (fun w h => h) hu28 rfl (info28_l hq)) (range_of_row D8.out) ?_
  simp only [List.getElem_toArray, List.getElem_cons_succ, List.getElem_cons_zero, Act.put, List.setIfInBounds_toArray, List.set_cons_zero, List.set_cons_succ]
  refine wpAnyH_step (i := 2) (by kernel_rfl) rfl fun K hK => ?_
  refine step_store_blk rfl 28 _ _ rfl g10 _ (u8s x) _ rfl rfl Cg10.out (size28 hXl hq) (info28_l hq) (u8s_one _) ?_
  intro w9 c9 t9 s9
  have PT9 : Hid (Turn (fun k => k = g) w w9) := Lib.hid (PT.out.trans t9 (fun q hq e => by omega))
  have HW9 : Hid (WalkN N w9 g v4 hs4 s4) := Lib.hid (HW.out.store t9 (by omega))
  have D89 : Hid (w9.heap[g8]? = some (.cells (u8s x).toArray 28 (0, 0))) := Lib.hid (t9.obj D8.out (by omega))
  have Cg119 : Hid (w9.heap[g11]? = some (.cells X.toArray 28 (0, 0))) := Lib.hid (t9.obj Cg11.out (by omega))
  have Cg109 := Lib.hid c9
  clear PT HW D8 Cg11 Cg10
  have PT := Lib.hid PT9.out
  have HW := Lib.hid HW9.out
  have D8 := Lib.hid D89.out
  have Cg11 := Lib.hid Cg119.out
  have Cg10 := Lib.hid Cg109.out
  clear PT9 HW9 D89 Cg119 Cg109
  refine hK.out _ _ (range_of_row D8.out) ?_
  clear hK K t9 c9 s9
  try simp only [List.getElem_toArray, List.getElem_cons_succ, List.getElem_cons_zero, Act.put]
  refine wpAnyH_step (i := 3) (by kernel_rfl) rfl fun K hK => ?_
  refine step_store_blk rfl 28 _ _ rfl g11 _ (u8s x) _ rfl rfl Cg11.out (size28 hXl hq) (info28_l hq) (u8s_one _) ?_
  intro w9 c9 t9 s9
  have PT9 : Hid (Turn (fun k => k = g) w w9) := Lib.hid (PT.out.trans t9 (fun q hq e => by omega))
  have HW9 : Hid (WalkN N w9 g v4 hs4 s4) := Lib.hid (HW.out.store t9 (by omega))
  have D89 : Hid (w9.heap[g8]? = some (.cells (u8s x).toArray 28 (0, 0))) := Lib.hid (t9.obj D8.out (by omega))
  have Cg109 : Hid (w9.heap[g10]? = some (.cells (u8s x).toArray 28 (0, 0))) := Lib.hid (t9.obj Cg10.out (by omega))
  have Cg119 := Lib.hid c9
  clear PT HW D8 Cg10 Cg11
  have PT := Lib.hid PT9.out
  have HW := Lib.hid HW9.out
  have D8 := Lib.hid D89.out
  have Cg10 := Lib.hid Cg109.out
  have Cg11 := Lib.hid Cg119.out
  clear PT9 HW9 D89 Cg109 Cg119
  refine hK.out _ _ (range_of_row D8.out) ?_
  clear hK K t9 c9 s9
  try simp only [List.getElem_toArray, List.getElem_cons_succ, List.getElem_cons_zero, Act.put]
  refine wpAnyH_done (by kernel_rfl) ?_ _
  go_wp2
  exact bodyPost_ret (v := .tuple #[hv x, hv x]) (results_cc Try.results55 _ _ g10 g11 (u8s x).toArray (u8s x).toArray _ rfl rfl Cg10.out Cg11.out hu28 rfl (info28_a hq) (info28_a hq)) rfl ⟨_, by rw [HQ.out], by rw [HQ.out]; exact HW.out, PT.out⟩

set_option maxRecDepth 100000 in
set_option maxHeartbeats 2000000 in
theorem both_left (w : World) (N g : Nat) (v : Value) (hs : List (List UInt8)) (s : Bool) (old : List UInt8) (m k size : Nat) (known : Bool) (h2 : 2 ≤ size) (hsz : size ≤ 4611686018427387904) (hne : m ≠ size) (hk : k = belowV size) (hik : m ≤ k) (hN : N ≤ w.heap.size) (hw : WalkN N w g v hs s) (ho : old.length = 32)
    (R1 R2 : List UInt8) (HS0 : List (List UInt8)) (SH0 : Bool) (hR1 : R1.length = 32) (hR2 : R2.length = 32) (hH : ∀ x ∈ HS0, x.length = 32)
    (ih : ∀ (W : World) (V : Value), N ≤ W.heap.size → WalkN N W g V hs s → Calls Try.prog 55 #[.pointer (some ⟨g, 0, none⟩), .int .i64 (m : Int), .int .i64 (k : Int), hv old, .bool known] W fun e w' => ∃ v', e = .returned (.tuple #[hv R1, hv R2]) ∧ WalkN N w' g v' HS0 SH0 ∧ Turn (fun k => k = g) W w') :
    Calls Try.prog 55 #[.pointer (some ⟨g, 0, none⟩), .int .i64 (m : Int), .int .i64 (size : Int), hv old, .bool known] w fun e w' => ∃ v', e = .returned (.tuple #[hv R1, hv (joinV R2 (nextV HS0 SH0).1)]) ∧ WalkN N w' g v' (nextV HS0 SH0).2.1 (nextV HS0 SH0).2.2 ∧ Turn (fun k => k = g) w w' := by
  obtain ⟨X, hXl, HZ⟩ := ex28
  have HW0 := Lib.hid hw
  have hgN := hw.lt
  clear hw
  have hu28 := Try.underlying28
  have hklt : k < size := by rw [hk]; exact belowV_lt h2
  have hbel := fun W => Below_any W size h2 hsz
  rw [← hk] at hbel
  have HBEL := Lib.hid hbel; clear hbel hk
  have q1 : ((m : Int) == size) = false := by simp; omega
  have q2 : (m == size) = false := by simp; omega
  have q3 : (m : Int) ≤ k := by omega
  have IH := Lib.hid ih; clear ih
  have hq := (nextV_ok HS0 SH0 hH).1
  go_enter Try.func55, Try.ntmps55
  go_wp2_with (refine wpList_boxV rfl 28 _ rfl (u8s old) rfl ?_)
  intro g8 w1 e1 c1 t1 s1
  have l8 : w.heap.size ≤ g8 := by omega
  clear e1
  go_wp2_with (refine wpList_allocZ rfl 28 rfl X HZ.out ?_)
  intro g10 w2 e2 c2 t2 s2
  have l10 : g8 < g10 := by omega
  clear e2
  go_wp2_with (refine wpList_allocZ rfl 28 rfl X HZ.out ?_)
  intro g11 w3 e3 c3 t3 s3
  have l11 : g10 < g11 := by omega
  clear e3
  have D8 := Lib.hid (t3.obj (t2.obj c1 (fun e => e)) (fun e => e)); have Cg10 := Lib.hid (t3.obj c2 (fun e => e)); have Cg11 := Lib.hid c3
  have PT := Lib.hid ((((Turn.refl (fun k => k = g) w).pure t1).pure t2).pure t3)
  have HW := Lib.hid (((HW0.out.pure t1).pure t2).pure t3)
  have s3g : g11 < w3.heap.size := by omega
  clear c1 c2 c3 t1 t2 t3 s1 s2 s3 HW0
  go_wp2_with fail
  refine (HBEL.out _).mono ?_
  rintro e wx ⟨rfl, rfl⟩
  go_wp2_with (refine wpList_load_row rfl 28 _ rfl g8 rfl _ (u8s old).toArray _ _ D8.out hu28 rfl (info28_a ho) ?_)
  refine (IH.out _ v (by have := PT.out.size; omega) HW.out).mono ?_
  rintro e w4 ⟨v4, rfl, h4, t4⟩
  have HW4 := Lib.hid h4; have PT4 := Lib.hid (PT.out.trans t4 fun _ _ e => e); have C104 := Lib.hid (t4.obj Cg10.out (by omega)); have C114 := Lib.hid (t4.obj Cg11.out (by omega))
  have s4 : g11 < w4.heap.size := by have := t4.size; omega
  clear h4 t4 HW PT D8 Cg10 Cg11
  go_wp2_with (refine wpList_allocZ rfl 28 rfl X HZ.out ?_)
  intro g13 w5 e5 c5 t5 s5
  have l13 : g11 < g13 := by omega
  clear e5
  go_wp2_with (refine wpList_allocZ rfl 28 rfl X HZ.out ?_)
  intro g14 w6 e6 c6 t6 s6
  have l14 : g13 < g14 := by omega
  clear e6
  go_wp2_with (refine wpList_store_blk rfl 28 _ _ rfl g13 _ (u8s R1) _ rfl rfl (t6.obj c5 (fun e => e)) (size28 hXl hR1) (info28_l hR1) (u8s_one _) ?_)
  intro w7 c7 t7 s7
  go_wp2_with (refine wpList_store_blk rfl 28 _ _ rfl g14 _ (u8s R2) _ rfl rfl (t7.obj c6 (by omega)) (size28 hXl hR2) (info28_l hR2) (u8s_one _) ?_)
  intro w8 c8 t8 s8
  have D13 := Lib.hid (t8.obj c7 (by omega)); have D14 := Lib.hid c8
  have HW := Lib.hid (((((HW4.out.pure t5).pure t6).store t7 (by omega)).store t8 (by omega)))
  have PT := Lib.hid ((((PT4.out.pure t5).pure t6).trans t7 fun q hq e => by omega).trans t8 fun q hq e => by omega : Turn (fun k => k = g) w w8)
  have Cg10 := Lib.hid (t8.obj (t7.obj (t6.obj (t5.obj C104.out (fun e => e)) (fun e => e)) (by omega)) (by omega))
  have Cg11 := Lib.hid (t8.obj (t7.obj (t6.obj (t5.obj C114.out (fun e => e)) (fun e => e)) (by omega)) (by omega))
  have s8g : g14 < w8.heap.size := by omega
  clear c5 t5 s5 c6 t6 s6 c7 t7 s7 c8 t8 s8 HW4 PT4 C104 C114
  go_wp2_with fail
  refine wp_region_held_drew (S := fun w' => w'.rangeAt g13 0 (u8s R1) ∧ w'.rangeAt g14 0 (u8s R2)) (by kernel_rfl) (show w8.drew.rangeAt g13 0 (u8s R1) ∧ w8.drew.rangeAt g14 0 (u8s R2) from ⟨range_of_row D13.out, range_of_row D14.out⟩) (fun _ => ?_)
  have PT9 : Hid (Turn (fun k => k = g) w w8.drew) := Lib.hid PT.out.drew
  have HW9 : Hid (WalkN N w8.drew g v4 HS0 SH0) := Lib.hid (HW.out.pure (Turn.refl _ _).drew)
  have D139 : Hid (w8.drew.heap[g13]? = some (.cells (u8s R1).toArray 28 (0, 0))) := Lib.hid D13.out
  have D149 : Hid (w8.drew.heap[g14]? = some (.cells (u8s R2).toArray 28 (0, 0))) := Lib.hid D14.out
  have Cg109 : Hid (w8.drew.heap[g10]? = some (.cells X.toArray 28 (0, 0))) := Lib.hid Cg10.out
  have Cg119 : Hid (w8.drew.heap[g11]? = some (.cells X.toArray 28 (0, 0))) := Lib.hid Cg11.out
  clear PT HW D13 D14 Cg10 Cg11
  have PT := Lib.hid PT9.out
  have HW := Lib.hid HW9.out
  have D13 := Lib.hid D139.out
  have D14 := Lib.hid D149.out
  have Cg10 := Lib.hid Cg109.out
  have Cg11 := Lib.hid Cg119.out
  clear PT9 HW9 D139 D149 Cg109 Cg119
  have s9g : g14 < w8.drew.heap.size := s8g
  clear s8g
  generalize w8.drew = wd at *
  refine wpAnyH_take (i := 0) (v := hv R1) rfl (by kernel_rfl) (by kernel_rfl) (by kernel_rfl) (fun _ _ _ h => h) (yieldsIf_load_mid (by rfl) 28 _ rfl g13 0 rfl (u8s R1) _ (fun w h => h.1) hu28 rfl (info28_l hR1)) (And.intro (range_of_row D13.out) (range_of_row D14.out)) ?_
  simp only [List.getElem_toArray, List.getElem_cons_zero, Act.put, List.setIfInBounds_toArray, List.set_cons_zero, List.set_cons_succ]
  refine wpAnyH_take (i := 1) (v := hv R2) rfl (by kernel_rfl) (by kernel_rfl) (by kernel_rfl) (fun _ _ _ h => h) (yieldsIf_load_mid (by rfl) 28 _ rfl g14 0 rfl (u8s R2) _ (fun w h => h.2) hu28 rfl (info28_l hR2)) (And.intro (range_of_row D13.out) (range_of_row D14.out)) ?_
  simp only [List.getElem_toArray, List.getElem_cons_succ, List.getElem_cons_zero, Act.put, List.setIfInBounds_toArray, List.set_cons_zero, List.set_cons_succ]
  refine wpAnyH_take (i := 2) (v := .pointer (some ⟨g, 0, none⟩)) rfl (by kernel_rfl) (by kernel_rfl) (by kernel_rfl) (fun _ _ _ h => h) (Or.inl ⟨by rfl, fun w hSw => by go_simp⟩) (And.intro (range_of_row D13.out) (range_of_row D14.out)) ?_
  simp only [List.getElem_toArray, List.getElem_cons_succ, List.getElem_cons_zero, Act.put, List.setIfInBounds_toArray, List.set_cons_zero, List.set_cons_succ]
  refine wpAnyH_step (i := 3) (by kernel_rfl) rfl fun K hK => ?_
  go_simp
  refine (next_N _ g _ HS0 SH0 HW.out).mono ?_
  rintro e w9 ⟨v9, rfl, h9, t9⟩
  have PT9 : Hid (Turn (fun k => k = g) w w9) := Lib.hid (PT.out.trans t9 (fun _ _ e => e))
  have D139 : Hid (w9.heap[g13]? = some (.cells (u8s R1).toArray 28 (0, 0))) := Lib.hid (t9.obj D13.out (by omega))
  have D149 : Hid (w9.heap[g14]? = some (.cells (u8s R2).toArray 28 (0, 0))) := Lib.hid (t9.obj D14.out (by omega))
  have Cg109 : Hid (w9.heap[g10]? = some (.cells X.toArray 28 (0, 0))) := Lib.hid (t9.obj Cg10.out (by omega))
  have Cg119 : Hid (w9.heap[g11]? = some (.cells X.toArray 28 (0, 0))) := Lib.hid (t9.obj Cg11.out (by omega))
  have HW9 := Lib.hid h9
  clear h9
  clear PT HW D13 D14 Cg10 Cg11
  have PT := Lib.hid PT9.out
  have HW := Lib.hid HW9.out
  have D13 := Lib.hid D139.out
  have D14 := Lib.hid D149.out
  have Cg10 := Lib.hid Cg109.out
  have Cg11 := Lib.hid Cg119.out
  clear PT9 HW9 D139 D149 Cg109 Cg119
  refine hK.out _ _ (And.intro (range_of_row D13.out) (range_of_row D14.out)) ?_
  clear hK K t9
  try simp only [List.getElem_toArray, List.getElem_cons_succ, List.getElem_cons_zero, Act.put, List.setIfInBounds_toArray, List.set_cons_zero, List.set_cons_succ]
  refine wpAnyH_step (i := 4) (by kernel_rfl) rfl fun K hK => ?_
  go_simp
  refine (Join_any _ R2 (nextV HS0 SH0).1 hR2 hq).mono ?_
  rintro e w9 ⟨rfl, t9⟩
  have PT9 : Hid (Turn (fun k => k = g) w w9) := Lib.hid (PT.out.pure t9)
  have HW9 : Hid (WalkN N w9 g v9 (nextV HS0 SH0).2.1 (nextV HS0 SH0).2.2) := Lib.hid (HW.out.pure t9)
  have D139 : Hid (w9.heap[g13]? = some (.cells (u8s R1).toArray 28 (0, 0))) := Lib.hid (t9.obj D13.out (fun e => e))
  have D149 : Hid (w9.heap[g14]? = some (.cells (u8s R2).toArray 28 (0, 0))) := Lib.hid (t9.obj D14.out (fun e => e))
  have Cg109 : Hid (w9.heap[g10]? = some (.cells X.toArray 28 (0, 0))) := Lib.hid (t9.obj Cg10.out (fun e => e))
  have Cg119 : Hid (w9.heap[g11]? = some (.cells X.toArray 28 (0, 0))) := Lib.hid (t9.obj Cg11.out (fun e => e))
  clear PT HW D13 D14 Cg10 Cg11
  have PT := Lib.hid PT9.out
  have HW := Lib.hid HW9.out
  have D13 := Lib.hid D139.out
  have D14 := Lib.hid D149.out
  have Cg10 := Lib.hid Cg109.out
  have Cg11 := Lib.hid Cg119.out
  clear PT9 HW9 D139 D149 Cg109 Cg119
  refine hK.out _ _ (And.intro (range_of_row D13.out) (range_of_row D14.out)) ?_
  clear hK K t9
  try simp only [List.getElem_toArray, List.getElem_cons_succ, List.getElem_cons_zero, Act.put, List.setIfInBounds_toArray, List.set_cons_zero, List.set_cons_succ]
  refine wpAnyH_step (i := 5) (by kernel_rfl) rfl fun K hK => ?_
  refine step_store_blk rfl 28 _ _ rfl g10 _ (u8s R1) _ rfl rfl Cg10.out (size28 hXl hR1) (info28_l hR1) (u8s_one _) ?_
  intro w9 c9 t9 s9
  have PT9 : Hid (Turn (fun k => k = g) w w9) := Lib.hid (PT.out.trans t9 (fun q hq e => by omega))
  have HW9 : Hid (WalkN N w9 g v9 (nextV HS0 SH0).2.1 (nextV HS0 SH0).2.2) := Lib.hid (HW.out.store t9 (by omega))
  have D139 : Hid (w9.heap[g13]? = some (.cells (u8s R1).toArray 28 (0, 0))) := Lib.hid (t9.obj D13.out (by omega))
  have D149 : Hid (w9.heap[g14]? = some (.cells (u8s R2).toArray 28 (0, 0))) := Lib.hid (t9.obj D14.out (by omega))
  have Cg119 : Hid (w9.heap[g11]? = some (.cells X.toArray 28 (0, 0))) := Lib.hid (t9.obj Cg11.out (by omega))
  have Cg109 := Lib.hid c9
  clear PT HW D13 D14 Cg11 Cg10
  have PT := Lib.hid PT9.out
  have HW := Lib.hid HW9.out
  have D13 := Lib.hid D139.out
  have D14 := Lib.hid D149.out
  have Cg11 := Lib.hid Cg119.out
  have Cg10 := Lib.hid Cg109.out
  clear PT9 HW9 D139 D149 Cg119 Cg109
  refine hK.out _ _ (And.intro (range_of_row D13.out) (range_of_row D14.out)) ?_
  clear hK K t9 c9 s9
  try simp only [List.getElem_toArray, List.getElem_cons_succ, List.getElem_cons_zero, Act.put]
  refine wpAnyH_step (i := 6) (by kernel_rfl) rfl fun K hK => ?_
  refine step_store_blk rfl 28 _ _ rfl g11 _ (u8s (joinV R2 (nextV HS0 SH0).1)) _ rfl rfl Cg11.out (size28 hXl (joinV_length _ _)) (info28_l (joinV_length _ _)) (u8s_one _) ?_
  intro w9 c9 t9 s9
  have PT9 : Hid (Turn (fun k => k = g) w w9) := Lib.hid (PT.out.trans t9 (fun q hq e => by omega))
  have HW9 : Hid (WalkN N w9 g v9 (nextV HS0 SH0).2.1 (nextV HS0 SH0).2.2) := Lib.hid (HW.out.store t9 (by omega))
  have D139 : Hid (w9.heap[g13]? = some (.cells (u8s R1).toArray 28 (0, 0))) := Lib.hid (t9.obj D13.out (by omega))
  have D149 : Hid (w9.heap[g14]? = some (.cells (u8s R2).toArray 28 (0, 0))) := Lib.hid (t9.obj D14.out (by omega))
  have Cg109 : Hid (w9.heap[g10]? = some (.cells (u8s R1).toArray 28 (0, 0))) := Lib.hid (t9.obj Cg10.out (by omega))
  have Cg119 := Lib.hid c9
  clear PT HW D13 D14 Cg10 Cg11
  have PT := Lib.hid PT9.out
  have HW := Lib.hid HW9.out
  have D13 := Lib.hid D139.out
  have D14 := Lib.hid D149.out
  have Cg10 := Lib.hid Cg109.out
  have Cg11 := Lib.hid Cg119.out
  clear PT9 HW9 D139 D149 Cg109 Cg119
  refine hK.out _ _ (And.intro (range_of_row D13.out) (range_of_row D14.out)) ?_
  clear hK K t9 c9 s9
  try simp only [List.getElem_toArray, List.getElem_cons_succ, List.getElem_cons_zero, Act.put]
  refine wpAnyH_done (by kernel_rfl) ?_ _
  go_wp2
  exact bodyPost_ret (v := .tuple #[hv R1, hv (joinV R2 (nextV HS0 SH0).1)]) (results_cc Try.results55 _ _ g10 g11 (u8s R1).toArray (u8s (joinV R2 (nextV HS0 SH0).1)).toArray _ rfl rfl Cg10.out Cg11.out hu28 rfl (info28_a hR1) (info28_a (joinV_length _ _))) rfl ⟨_, rfl, HW.out, PT.out⟩

set_option maxRecDepth 100000 in
set_option maxHeartbeats 2000000 in
theorem both_right (w : World) (N g : Nat) (v : Value) (hs : List (List UInt8)) (s : Bool) (old : List UInt8) (m k size : Nat) (known : Bool) (h2 : 2 ≤ size) (hsz : size ≤ 4611686018427387904) (hne : m ≠ size) (hk : k = belowV size) (hik : ¬ m ≤ k) (hms : m ≤ size) (hN : N ≤ w.heap.size) (hw : WalkN N w g v hs s) (ho : old.length = 32)
    (R1 R2 : List UInt8) (HS0 : List (List UInt8)) (SH0 : Bool) (hR1 : R1.length = 32) (hR2 : R2.length = 32) (hH : ∀ x ∈ HS0, x.length = 32)
    (ih : ∀ (W : World) (V : Value), N ≤ W.heap.size → WalkN N W g V hs s → Calls Try.prog 55 #[.pointer (some ⟨g, 0, none⟩), .int .i64 ((m - k : Nat) : Int), .int .i64 ((size - k : Nat) : Int), hv old, .bool false] W fun e w' => ∃ v', e = .returned (.tuple #[hv R1, hv R2]) ∧ WalkN N w' g v' HS0 SH0 ∧ Turn (fun k => k = g) W w') :
    Calls Try.prog 55 #[.pointer (some ⟨g, 0, none⟩), .int .i64 (m : Int), .int .i64 (size : Int), hv old, .bool known] w fun e w' => ∃ v', e = .returned (.tuple #[hv (joinV (nextV HS0 SH0).1 R1), hv (joinV (nextV HS0 SH0).1 R2)]) ∧ WalkN N w' g v' (nextV HS0 SH0).2.1 (nextV HS0 SH0).2.2 ∧ Turn (fun k => k = g) w w' := by
  obtain ⟨X, hXl, HZ⟩ := ex28
  have HW0 := Lib.hid hw
  have hgN := hw.lt
  clear hw
  have hu28 := Try.underlying28
  have hklt : k < size := by rw [hk]; exact belowV_lt h2
  have hbel := fun W => Below_any W size h2 hsz
  rw [← hk] at hbel
  have HBEL := Lib.hid hbel; clear hbel hk
  have q1 : ((m : Int) == size) = false := by simp; omega
  have q2 : (m == size) = false := by simp; omega
  have q3 : ¬ ((m : Int) ≤ k) := by omega
  obtain ⟨d, hd⟩ : ∃ d, d = m - k := ⟨_, rfl⟩
  obtain ⟨z, hz⟩ : ∃ z, z = size - k := ⟨_, rfl⟩
  rw [← hd, ← hz] at ih
  have i3 : IntKind.i64.wrap ((m : Int) - k) = (d : Int) := by rw [IntWalk.i64_in _ (by omega)]; omega
  have i4 : IntKind.i64.wrap ((size : Int) - k) = (z : Int) := by rw [IntWalk.i64_in _ (by omega)]; omega
  clear hd hz
  have IH := Lib.hid ih; clear ih
  have hq := (nextV_ok HS0 SH0 hH).1
  go_enter Try.func55, Try.ntmps55
  go_wp2_with (refine wpList_boxV rfl 28 _ rfl (u8s old) rfl ?_)
  intro g8 w1 e1 c1 t1 s1
  have l8 : w.heap.size ≤ g8 := by omega
  clear e1
  go_wp2_with (refine wpList_allocZ rfl 28 rfl X HZ.out ?_)
  intro g10 w2 e2 c2 t2 s2
  have l10 : g8 < g10 := by omega
  clear e2
  go_wp2_with (refine wpList_allocZ rfl 28 rfl X HZ.out ?_)
  intro g11 w3 e3 c3 t3 s3
  have l11 : g10 < g11 := by omega
  clear e3
  have D8 := Lib.hid (t3.obj (t2.obj c1 (fun e => e)) (fun e => e)); have Cg10 := Lib.hid (t3.obj c2 (fun e => e)); have Cg11 := Lib.hid c3
  have PT := Lib.hid ((((Turn.refl (fun k => k = g) w).pure t1).pure t2).pure t3)
  have HW := Lib.hid (((HW0.out.pure t1).pure t2).pure t3)
  have s3g : g11 < w3.heap.size := by omega
  clear c1 c2 c3 t1 t2 t3 s1 s2 s3 HW0
  go_wp2_with fail
  refine (HBEL.out _).mono ?_
  rintro e wx ⟨rfl, rfl⟩
  go_wp2_with (refine wpList_load_row rfl 28 _ rfl g8 rfl _ (u8s old).toArray _ _ D8.out hu28 rfl (info28_a ho) ?_)
  refine (IH.out _ v (by have := PT.out.size; omega) HW.out).mono ?_
  rintro e w4 ⟨v4, rfl, h4, t4⟩
  have HW4 := Lib.hid h4; have PT4 := Lib.hid (PT.out.trans t4 fun _ _ e => e); have C104 := Lib.hid (t4.obj Cg10.out (by omega)); have C114 := Lib.hid (t4.obj Cg11.out (by omega))
  have s4 : g11 < w4.heap.size := by have := t4.size; omega
  clear h4 t4 HW PT D8 Cg10 Cg11
  go_wp2_with (refine wpList_allocZ rfl 28 rfl X HZ.out ?_)
  intro g13 w5 e5 c5 t5 s5
  have l13 : g11 < g13 := by omega
  clear e5
  go_wp2_with (refine wpList_allocZ rfl 28 rfl X HZ.out ?_)
  intro g14 w6 e6 c6 t6 s6
  have l14 : g13 < g14 := by omega
  clear e6
  go_wp2_with (refine wpList_store_blk rfl 28 _ _ rfl g13 _ (u8s R1) _ rfl rfl (t6.obj c5 (fun e => e)) (size28 hXl hR1) (info28_l hR1) (u8s_one _) ?_)
  intro w7 c7 t7 s7
  go_wp2_with (refine wpList_store_blk rfl 28 _ _ rfl g14 _ (u8s R2) _ rfl rfl (t7.obj c6 (by omega)) (size28 hXl hR2) (info28_l hR2) (u8s_one _) ?_)
  intro w8 c8 t8 s8
  have D13 := Lib.hid (t8.obj c7 (by omega)); have D14 := Lib.hid c8
  have HW := Lib.hid (((((HW4.out.pure t5).pure t6).store t7 (by omega)).store t8 (by omega)))
  have PT := Lib.hid ((((PT4.out.pure t5).pure t6).trans t7 fun q hq e => by omega).trans t8 fun q hq e => by omega : Turn (fun k => k = g) w w8)
  have Cg10 := Lib.hid (t8.obj (t7.obj (t6.obj (t5.obj C104.out (fun e => e)) (fun e => e)) (by omega)) (by omega))
  have Cg11 := Lib.hid (t8.obj (t7.obj (t6.obj (t5.obj C114.out (fun e => e)) (fun e => e)) (by omega)) (by omega))
  have s8g : g14 < w8.heap.size := by omega
  clear c5 t5 s5 c6 t6 s6 c7 t7 s7 c8 t8 s8 HW4 PT4 C104 C114
  go_wp2_with fail
  refine (next_N _ g _ HS0 SH0 HW.out).mono ?_
  rintro e wa ⟨v9, rfl, ha, ta⟩
  have HWa := Lib.hid ha; have PTa := Lib.hid (PT.out.trans ta fun _ _ e => e); have D13a := Lib.hid (ta.obj D13.out (by omega)); have D14a := Lib.hid (ta.obj D14.out (by omega)); have C10a := Lib.hid (ta.obj Cg10.out (by omega)); have C11a := Lib.hid (ta.obj Cg11.out (by omega))
  have sa : g14 < wa.heap.size := by have := ta.size; omega
  clear ha ta HW PT D13 D14 Cg10 Cg11 s8g
  go_wp2_with (refine wpList_allocZ rfl 28 rfl X HZ.out ?_)
  intro g17 wb eb cb tb sb
  have l17 : g14 < g17 := by omega
  clear eb
  go_wp2_with (refine wpList_store_blk rfl 28 _ _ rfl g17 _ (u8s (nextV HS0 SH0).1) _ rfl rfl cb (size28 hXl hq) (info28_l hq) (u8s_one _) ?_)
  intro wc cc tc sc
  have D17 := Lib.hid cc
  have HW := Lib.hid ((HWa.out.pure tb).store tc (by omega)); have PT := Lib.hid ((PTa.out.pure tb).trans tc fun q hq e => by omega : Turn (fun k => k = g) w wc)
  have D13 := Lib.hid (tc.obj (tb.obj D13a.out (fun e => e)) (by omega)); have D14 := Lib.hid (tc.obj (tb.obj D14a.out (fun e => e)) (by omega)); have Cg10 := Lib.hid (tc.obj (tb.obj C10a.out (fun e => e)) (by omega)); have Cg11 := Lib.hid (tc.obj (tb.obj C11a.out (fun e => e)) (by omega))
  have scg : g17 < wc.heap.size := by omega
  clear cb tb sb cc tc sc HWa PTa D13a D14a C10a C11a
  go_wp2_with fail
  refine wp_region_held_drew (S := fun w' => w'.rangeAt g13 0 (u8s R1) ∧ w'.rangeAt g14 0 (u8s R2) ∧ w'.rangeAt g17 0 (u8s (nextV HS0 SH0).1)) (by kernel_rfl) (show wc.drew.rangeAt g13 0 (u8s R1) ∧ wc.drew.rangeAt g14 0 (u8s R2) ∧ wc.drew.rangeAt g17 0 (u8s (nextV HS0 SH0).1) from ⟨range_of_row D13.out, range_of_row D14.out, range_of_row D17.out⟩) (fun _ => ?_)
  have PT9 : Hid (Turn (fun k => k = g) w wc.drew) := Lib.hid PT.out.drew
  have HW9 : Hid (WalkN N wc.drew g v9 (nextV HS0 SH0).2.1 (nextV HS0 SH0).2.2) := Lib.hid (HW.out.pure (Turn.refl _ _).drew)
  have D139 : Hid (wc.drew.heap[g13]? = some (.cells (u8s R1).toArray 28 (0, 0))) := Lib.hid D13.out
  have D149 : Hid (wc.drew.heap[g14]? = some (.cells (u8s R2).toArray 28 (0, 0))) := Lib.hid D14.out
  have D179 : Hid (wc.drew.heap[g17]? = some (.cells (u8s (nextV HS0 SH0).1).toArray 28 (0, 0))) := Lib.hid D17.out
  have Cg109 : Hid (wc.drew.heap[g10]? = some (.cells X.toArray 28 (0, 0))) := Lib.hid Cg10.out
  have Cg119 : Hid (wc.drew.heap[g11]? = some (.cells X.toArray 28 (0, 0))) := Lib.hid Cg11.out
  clear PT HW D13 D14 D17 Cg10 Cg11
  have PT := Lib.hid PT9.out
  have HW := Lib.hid HW9.out
  have D13 := Lib.hid D139.out
  have D14 := Lib.hid D149.out
  have D17 := Lib.hid D179.out
  have Cg10 := Lib.hid Cg109.out
  have Cg11 := Lib.hid Cg119.out
  clear PT9 HW9 D139 D149 D179 Cg109 Cg119
  have s9g : g17 < wc.drew.heap.size := scg
  clear scg
  generalize wc.drew = wd at *
  refine wpAnyH_take (i := 0) (v := hv (nextV HS0 SH0).1) rfl (by kernel_rfl) (by kernel_rfl) (by kernel_rfl) (fun _ _ _ h => h) (yieldsIf_load_mid (by rfl) 28 _ rfl g17 0 rfl (u8s (nextV HS0 SH0).1) _ (fun w h => h.2.2) hu28 rfl (info28_l hq)) (And.intro (range_of_row D13.out) (And.intro (range_of_row D14.out) (range_of_row D17.out))) ?_
  simp only [List.getElem_toArray, List.getElem_cons_zero, Act.put, List.setIfInBounds_toArray, List.set_cons_zero, List.set_cons_succ]
  refine wpAnyH_take (i := 1) (v := hv R1) rfl (by kernel_rfl) (by kernel_rfl) (by kernel_rfl) (fun _ _ _ h => h) (yieldsIf_load_mid (by rfl) 28 _ rfl g13 0 rfl (u8s R1) _ (fun w h => h.1) hu28 rfl (info28_l hR1)) (And.intro (range_of_row D13.out) (And.intro (range_of_row D14.out) (range_of_row D17.out))) ?_
  simp only [List.getElem_toArray, List.getElem_cons_succ, List.getElem_cons_zero, Act.put, List.setIfInBounds_toArray, List.set_cons_zero, List.set_cons_succ]
  refine wpAnyH_take (i := 3) (v := hv (nextV HS0 SH0).1) rfl (by kernel_rfl) (by kernel_rfl) (by kernel_rfl) (fun _ _ _ h => h) (yieldsIf_load_mid (by rfl) 28 _ rfl g17 0 rfl (u8s (nextV HS0 SH0).1) _ (fun w h => h.2.2) hu28 rfl (info28_l hq)) (And.intro (range_of_row D13.out) (And.intro (range_of_row D14.out) (range_of_row D17.out))) ?_
  simp only [List.getElem_toArray, List.getElem_cons_succ, List.getElem_cons_zero, Act.put, List.setIfInBounds_toArray, List.set_cons_zero, List.set_cons_succ]
  refine wpAnyH_take (i := 4) (v := hv R2) rfl (by kernel_rfl) (by kernel_rfl) (by kernel_rfl) (fun _ _ _ h => h) (yieldsIf_load_mid (by rfl) 28 _ rfl g14 0 rfl (u8s R2) _ (fun w h => h.2.1) hu28 rfl (info28_l hR2)) (And.intro (range_of_row D13.out) (And.intro (range_of_row D14.out) (range_of_row D17.out))) ?_
  simp only [List.getElem_toArray, List.getElem_cons_succ, List.getElem_cons_zero, Act.put, List.setIfInBounds_toArray, List.set_cons_zero, List.set_cons_succ]
  refine wpAnyH_step (i := 2) (by kernel_rfl) rfl fun K hK => ?_
  go_simp
  refine (Join_any _ (nextV HS0 SH0).1 R1 hq hR1).mono ?_
  rintro e w9 ⟨rfl, t9⟩
  have PT9 : Hid (Turn (fun k => k = g) w w9) := Lib.hid (PT.out.pure t9)
  have HW9 : Hid (WalkN N w9 g v9 (nextV HS0 SH0).2.1 (nextV HS0 SH0).2.2) := Lib.hid (HW.out.pure t9)
  have D139 : Hid (w9.heap[g13]? = some (.cells (u8s R1).toArray 28 (0, 0))) := Lib.hid (t9.obj D13.out (fun e => e))
  have D149 : Hid (w9.heap[g14]? = some (.cells (u8s R2).toArray 28 (0, 0))) := Lib.hid (t9.obj D14.out (fun e => e))
  have D179 : Hid (w9.heap[g17]? = some (.cells (u8s (nextV HS0 SH0).1).toArray 28 (0, 0))) := Lib.hid (t9.obj D17.out (fun e => e))
  have Cg109 : Hid (w9.heap[g10]? = some (.cells X.toArray 28 (0, 0))) := Lib.hid (t9.obj Cg10.out (fun e => e))
  have Cg119 : Hid (w9.heap[g11]? = some (.cells X.toArray 28 (0, 0))) := Lib.hid (t9.obj Cg11.out (fun e => e))
  clear PT HW D13 D14 D17 Cg10 Cg11
  have PT := Lib.hid PT9.out
  have HW := Lib.hid HW9.out
  have D13 := Lib.hid D139.out
  have D14 := Lib.hid D149.out
  have D17 := Lib.hid D179.out
  have Cg10 := Lib.hid Cg109.out
  have Cg11 := Lib.hid Cg119.out
  clear PT9 HW9 D139 D149 D179 Cg109 Cg119
  refine hK.out _ _ (And.intro (range_of_row D13.out) (And.intro (range_of_row D14.out) (range_of_row D17.out))) ?_
  clear hK K t9
  try simp only [List.getElem_toArray, List.getElem_cons_succ, List.getElem_cons_zero, Act.put, List.setIfInBounds_toArray, List.set_cons_zero, List.set_cons_succ]
  refine wpAnyH_step (i := 5) (by kernel_rfl) rfl fun K hK => ?_
  go_simp
  refine (Join_any _ (nextV HS0 SH0).1 R2 hq hR2).mono ?_
  rintro e w9 ⟨rfl, t9⟩
  have PT9 : Hid (Turn (fun k => k = g) w w9) := Lib.hid (PT.out.pure t9)
  have HW9 : Hid (WalkN N w9 g v9 (nextV HS0 SH0).2.1 (nextV HS0 SH0).2.2) := Lib.hid (HW.out.pure t9)
  have D139 : Hid (w9.heap[g13]? = some (.cells (u8s R1).toArray 28 (0, 0))) := Lib.hid (t9.obj D13.out (fun e => e))
  have D149 : Hid (w9.heap[g14]? = some (.cells (u8s R2).toArray 28 (0, 0))) := Lib.hid (t9.obj D14.out (fun e => e))
  have D179 : Hid (w9.heap[g17]? = some (.cells (u8s (nextV HS0 SH0).1).toArray 28 (0, 0))) := Lib.hid (t9.obj D17.out (fun e => e))
  have Cg109 : Hid (w9.heap[g10]? = some (.cells X.toArray 28 (0, 0))) := Lib.hid (t9.obj Cg10.out (fun e => e))
  have Cg119 : Hid (w9.heap[g11]? = some (.cells X.toArray 28 (0, 0))) := Lib.hid (t9.obj Cg11.out (fun e => e))
  clear PT HW D13 D14 D17 Cg10 Cg11
  have PT := Lib.hid PT9.out
  have HW := Lib.hid HW9.out
  have D13 := Lib.hid D139.out
  have D14 := Lib.hid D149.out
  have D17 := Lib.hid D179.out
  have Cg10 := Lib.hid Cg109.out
  have Cg11 := Lib.hid Cg119.out
  clear PT9 HW9 D139 D149 D179 Cg109 Cg119
  refine hK.out _ _ (And.intro (range_of_row D13.out) (And.intro (range_of_row D14.out) (range_of_row D17.out))) ?_
  clear hK K t9
  try simp only [List.getElem_toArray, List.getElem_cons_succ, List.getElem_cons_zero, Act.put, List.setIfInBounds_toArray, List.set_cons_zero, List.set_cons_succ]
  refine wpAnyH_step (i := 6) (by kernel_rfl) rfl fun K hK => ?_
  refine step_store_blk rfl 28 _ _ rfl g10 _ (u8s (joinV (nextV HS0 SH0).1 R1)) _ rfl rfl Cg10.out (size28 hXl (joinV_length _ _)) (info28_l (joinV_length _ _)) (u8s_one _) ?_
  intro w9 c9 t9 s9
  have PT9 : Hid (Turn (fun k => k = g) w w9) := Lib.hid (PT.out.trans t9 (fun q hq e => by omega))
  have HW9 : Hid (WalkN N w9 g v9 (nextV HS0 SH0).2.1 (nextV HS0 SH0).2.2) := Lib.hid (HW.out.store t9 (by omega))
  have D139 : Hid (w9.heap[g13]? = some (.cells (u8s R1).toArray 28 (0, 0))) := Lib.hid (t9.obj D13.out (by omega))
  have D149 : Hid (w9.heap[g14]? = some (.cells (u8s R2).toArray 28 (0, 0))) := Lib.hid (t9.obj D14.out (by omega))
  have D179 : Hid (w9.heap[g17]? = some (.cells (u8s (nextV HS0 SH0).1).toArray 28 (0, 0))) := Lib.hid (t9.obj D17.out (by omega))
  have Cg119 : Hid (w9.heap[g11]? = some (.cells X.toArray 28 (0, 0))) := Lib.hid (t9.obj Cg11.out (by omega))
  have Cg109 := Lib.hid c9
  clear PT HW D13 D14 D17 Cg11 Cg10
  have PT := Lib.hid PT9.out
  have HW := Lib.hid HW9.out
  have D13 := Lib.hid D139.out
  have D14 := Lib.hid D149.out
  have D17 := Lib.hid D179.out
  have Cg11 := Lib.hid Cg119.out
  have Cg10 := Lib.hid Cg109.out
  clear PT9 HW9 D139 D149 D179 Cg119 Cg109
  refine hK.out _ _ (And.intro (range_of_row D13.out) (And.intro (range_of_row D14.out) (range_of_row D17.out))) ?_
  clear hK K t9 c9 s9
  try simp only [List.getElem_toArray, List.getElem_cons_succ, List.getElem_cons_zero, Act.put]
  refine wpAnyH_step (i := 7) (by kernel_rfl) rfl fun K hK => ?_
  refine step_store_blk rfl 28 _ _ rfl g11 _ (u8s (joinV (nextV HS0 SH0).1 R2)) _ rfl rfl Cg11.out (size28 hXl (joinV_length _ _)) (info28_l (joinV_length _ _)) (u8s_one _) ?_
  intro w9 c9 t9 s9
  have PT9 : Hid (Turn (fun k => k = g) w w9) := Lib.hid (PT.out.trans t9 (fun q hq e => by omega))
  have HW9 : Hid (WalkN N w9 g v9 (nextV HS0 SH0).2.1 (nextV HS0 SH0).2.2) := Lib.hid (HW.out.store t9 (by omega))
  have D139 : Hid (w9.heap[g13]? = some (.cells (u8s R1).toArray 28 (0, 0))) := Lib.hid (t9.obj D13.out (by omega))
  have D149 : Hid (w9.heap[g14]? = some (.cells (u8s R2).toArray 28 (0, 0))) := Lib.hid (t9.obj D14.out (by omega))
  have D179 : Hid (w9.heap[g17]? = some (.cells (u8s (nextV HS0 SH0).1).toArray 28 (0, 0))) := Lib.hid (t9.obj D17.out (by omega))
  have Cg109 : Hid (w9.heap[g10]? = some (.cells (u8s (joinV (nextV HS0 SH0).1 R1)).toArray 28 (0, 0))) := Lib.hid (t9.obj Cg10.out (by omega))
  have Cg119 := Lib.hid c9
  clear PT HW D13 D14 D17 Cg10 Cg11
  have PT := Lib.hid PT9.out
  have HW := Lib.hid HW9.out
  have D13 := Lib.hid D139.out
  have D14 := Lib.hid D149.out
  have D17 := Lib.hid D179.out
  have Cg10 := Lib.hid Cg109.out
  have Cg11 := Lib.hid Cg119.out
  clear PT9 HW9 D139 D149 D179 Cg109 Cg119
  refine hK.out _ _ (And.intro (range_of_row D13.out) (And.intro (range_of_row D14.out) (range_of_row D17.out))) ?_
  clear hK K t9 c9 s9
  try simp only [List.getElem_toArray, List.getElem_cons_succ, List.getElem_cons_zero, Act.put]
  refine wpAnyH_done (by kernel_rfl) ?_ _
  go_wp2
  exact bodyPost_ret (v := .tuple #[hv (joinV (nextV HS0 SH0).1 R1), hv (joinV (nextV HS0 SH0).1 R2)]) (results_cc Try.results55 _ _ g10 g11 (u8s (joinV (nextV HS0 SH0).1 R1)).toArray (u8s (joinV (nextV HS0 SH0).1 R2)).toArray _ rfl rfl Cg10.out Cg11.out hu28 rfl (info28_a (joinV_length _ _)) (info28_a (joinV_length _ _))) rfl ⟨_, rfl, HW.out, PT.out⟩

/-- The walker's both. -/
theorem both_any : ∀ (size : Nat), 1 ≤ size → size ≤ 4611686018427387904 → ∀ (m : Nat) (w : World) (N g : Nat) (v : Value) (hs : List (List UInt8)) (s : Bool) (old : List UInt8) (known : Bool), 1 ≤ m → m ≤ size → N ≤ w.heap.size → WalkN N w g v hs s → old.length = 32 →
    Calls Try.prog 55 #[.pointer (some ⟨g, 0, none⟩), .int .i64 (m : Int), .int .i64 (size : Int), hv old, .bool known] w fun e w' => ∃ v', e = .returned (.tuple #[hv (bothV m size old known hs s).1, hv (bothV m size old known hs s).2.1]) ∧ WalkN N w' g v' (bothV m size old known hs s).2.2.1 (bothV m size old known hs s).2.2.2 ∧ Turn (fun k => k = g) w w' := by
  intro size
  induction size using Nat.strongRecOn with
  | _ size ih =>
    intro h1 hsz m w N g v hs s old known hm1 hms hN hw ho
    have hx : ∀ x ∈ hs, x.length = 32 := by obtain ⟨_, _, _, _, _, h4⟩ := hw.at_.row; exact h4
    by_cases he : m = size
    · subst he
      cases known with
      | true => rw [bothV_known]; exact both_known w N g v hs s old m hN hw ho
      | false => rw [bothV_new]; exact both_new w N g v hs s old m hN hw ho
    · have h2 : 2 ≤ size := by omega
      have hk1 := belowV_lt h2
      have hk0 := belowV_pos size
      by_cases hi : m ≤ belowV size
      · obtain ⟨a1, a2, a3⟩ := bothV_ok (belowV size) m old known hs s ho hx
        rw [bothV_left old known hs s h2 he hi]
        exact both_left w N g v hs s old m (belowV size) size known h2 hsz he rfl hi hN hw ho _ _ _ _ a1 a2 a3 fun W V hNW hW => ih (belowV size) hk1 hk0 (by omega) m W N g V hs s old known hm1 hi hNW hW ho
      · obtain ⟨a1, a2, a3⟩ := bothV_ok (size - belowV size) (m - belowV size) old false hs s ho hx
        rw [bothV_right old known hs s h2 he hi]
        exact both_right w N g v hs s old m (belowV size) size known h2 hsz he rfl hi hms hN hw ho _ _ _ _ a1 a2 a3 fun W V hNW hW => ih (size - belowV size) (by omega) (by omega) (by omega) (m - belowV size) W N g V hs s old false (by omega) (by omega) hNW hW ho
end Go.Proofs.Ytjbigghjbcjelaa
