/- Chapter 5: trees over one-time keys: the plain law; numbers, types, nodes. Chapter 5: nodes. -/
import Derived.Test.YtcfbmbhkdicpfaaOtsF
import Derived.Test.YtcfbmbhkdicpfaaWire
import Derived.Test.YtcfbmbhkdicpfaaSeq
namespace Go.Proofs.Ytcfbmbhkdicpfaa
open Go.RowKit

/-- A height's type. -/
def typeV (h : Int) : Int := if h = 5 then 5 else 4026531840 + h
/-- A node over a one-time key. -/
def tipV (id : List UInt8) (r : Nat) (p : List UInt8) : List UInt8 := shaV (id ++ beB r 4 ++ [130, 130] ++ p)
/-- A node over two. -/
def nodV (id : List UInt8) (r : Nat) (a b : List UInt8) : List UInt8 := shaV (id ++ beB r 4 ++ [131, 131] ++ a ++ b)
/-- The nodes of a tree: with d levels beneath; leaves begin at m. -/
def treeV (id : List UInt8) (pub : Nat → List UInt8) (m : Nat) : Nat → Nat → List UInt8
  | 0, r => tipV id r (pub (r - m))
  | d + 1, r => nodV id r (treeV id pub m d (2 * r)) (treeV id pub m d (2 * r + 1))
theorem treeV_length (id : List UInt8) (pub : Nat → List UInt8) (m d r : Nat) : (treeV id pub m d r).length = 32 := by
  cases d with
  | zero => exact shaV_length _
  | succ d => exact shaV_length _
theorem wrNum_fit {bs : List UInt8} {x n : Nat} (hn : n = 1 ∨ n = 2 ∨ n = 4) (hx : x < 256 ^ n) (hl : bs.length ≤ 60000) : wrNum bs (x : Int) (n : Int) = (0, bs ++ beB x n) := by
  have hf : fitsB (x : Int) (n : Int) = true := by
    simp only [fitsB, Bool.and_eq_true, decide_eq_true_eq, Int.toNat_natCast]
    refine ⟨⟨by rcases hn with rfl | rfl | rfl <;> rfl, by omega⟩, ?_⟩
    have : ((256 ^ n : Nat) : Int) = (256 : Int) ^ n := by rw [Int.natCast_pow]; rfl
    rw [← this]; omega
  rw [wrNum, if_pos hf, Int.toNat_natCast, Int.toNat_natCast, wrPut, if_pos (by rw [beB_length]; omega)]

set_option maxRecDepth 100000 in
set_option maxHeartbeats 1000000 in
theorem lnum_any (w : World) (x n : Nat) (hn : n = 1 ∨ n = 2 ∨ n = 4) (hx : x < 256 ^ n) : Calls Try.prog 79 #[.int .i64 (x : Int), .int .i64 (n : Int)] w fun e w' => e = .returned (.string (bstr (beB x n))) ∧ Pure w w' := by
  have hw := wrNum_fit (bs := []) hn hx (by simp)
  rw [List.nil_append] at hw
  have HW := Lib.hid hw
  clear hw
  go_enter Try.func79, Try.ntmps79
  go_wp2_with fail
  refine (New_own (Turn.refl (fun _ => False) w)).mono ?_
  rintro e w1 ⟨rfl, o1⟩
  generalize w.heap.size = g at *
  go_wp2_with fail
  refine (WNum_own (x : Int) (n : Int) o1).mono ?_
  rintro e w2 ⟨rfl, o2⟩
  rw [HW.out] at o2 ⊢
  have HO := Lib.hid o2
  clear o1 o2
  go_wp2_with fail
  refine (WAll_own HO.out).mono ?_
  rintro e w3 ⟨rfl, rfl⟩
  have HP := Lib.hid HO.out.pure
  go_wp2
  go_ret
  exact ⟨rfl, HP.out⟩

set_option maxHeartbeats 1000000 in
theorem typeOf_any (w : World) (h : Int) (h1 : -4294967296 ≤ h) (h2 : h ≤ 4294967296) : Calls Try.prog 80 #[.int .i64 h] w fun e w' => e = .returned (.int .i64 (typeV h)) ∧ w' = w := by
  by_cases h5 : h = 5
  · subst h5
    go_enter Try.func80, Try.ntmps80
    go_wp2
    go_ret
    exact ⟨rfl, rfl⟩
  · have q : (h == 5) = false := beq_eq_false_iff_ne.2 h5
    have i1 : IntKind.i64.wrap (4026531840 + h) = 4026531840 + h := IntWalk.i64_in _ (by omega)
    have e : typeV h = 4026531840 + h := by rw [typeV, if_neg h5]
    rw [e]
    clear e h5
    go_enter Try.func80, Try.ntmps80
    go_wp2
    go_ret
    exact ⟨rfl, rfl⟩
set_option maxHeartbeats 1000000 in
theorem kindOfR_any (w : World) (h : Int) (h1 : -4294967296 ≤ h) (h2 : h ≤ 4294967296) : Calls Try.prog 83 #[.int .i64 h] w fun e w' => e = .returned (.int .i64 (typeV h)) ∧ w' = w := by
  by_cases h5 : h = 5
  · subst h5
    go_enter Try.func83, Try.ntmps83
    go_wp2
    go_ret
    exact ⟨rfl, rfl⟩
  · have q : (h == 5) = false := beq_eq_false_iff_ne.2 h5
    have i1 : IntKind.i64.wrap (4026531840 + h) = 4026531840 + h := IntWalk.i64_in _ (by omega)
    have e : typeV h = 4026531840 + h := by rw [typeV, if_neg h5]
    rw [e]
    clear e h5
    go_enter Try.func83, Try.ntmps83
    go_wp2
    go_ret
    exact ⟨rfl, rfl⟩

theorem step_store_blk5 {P : Program} {ops : Array Oper} {op : Oper} {a : Act} {w : World} {K : Act → World → Prop} {Q : Exit → Act → World → Prop} {E : Prop} (hgd : op.guard = none) (ty : TypeId) (x y : Operand) (ho : op.op = .store ty x y)
    (g : Nat) (old : Array Value) (cs : List Value) (T : TypeId) (hx : a.eval x = .pointer (some ⟨g, 0, none⟩)) (hy : a.eval y = .agg cs.toArray) (hg : w.heap[g]? = some (.cells old T (0, 0))) (hs : old.size = cs.length)
    (hi : (P.info? ty).map (·.size) = some cs.length) (h1 : ∀ v ∈ cs, v.oneCell' = true)
    (h : ∀ w', w'.heap[g]? = some (.cells cs.toArray T (0, 0)) → Turn (fun k => k = g) w w' → K (a.put op.dst undef) w') : if Region.wanted op (yielded ops a.tmps) = true then Oper.wp P op a w K Q else E := by
  rw [if_pos (by simp [Region.wanted, hgd])]
  refine wp_store_mid ty x y ho g 0 cs.toArray hx hy ?_ (by simpa using hi) (all_oneCell_toArray h1) ?_
  · intro j hj
    rw [Nat.zero_add, cell_of_row w g j old T (0, 0) hg, frozen_of_row w g j old T hg]
    exact ⟨by simp at hj ⊢; omega, rfl⟩
  · have hw := setCells_heap g cs 0 w old T (0, 0) hg (by omega)
    have := h (w.setCells g 0 cs) (by rw [hw]; simp [List.drop_eq_nil_of_le, hs]) ⟨World.os_setCells _ _ _ _, setCells_tape _ _ _ _, World.output_setCells _ _ _ _, by rw [setCells_size]; exact Nat.le_refl _, fun k hk hn => World.heap_setCells_other w g _ _ hk hn⟩
    simpa using this

set_option maxRecDepth 100000 in
set_option maxHeartbeats 4000000 in
theorem tip_any (w : World) (id : List UInt8) (r : Nat) (a : List UInt8) (hid : id.length ≤ 1000) (hr : r < 4294967296) (ha : a.length = 32) :
    Calls Try.prog 51 #[.string (bstr id), .int .i64 (r : Int), hv a] w fun e w' => e = .returned (hv (tipV id r a)) ∧ Pure w w' := by
  obtain ⟨X, hXl, HZ⟩ := ex28
  have n1 := fun W => lnum_any W r 4 (by omega) (by omega)
  have n2 : ∀ W, Calls Try.prog 79 #[.int .i64 33410, .int .i64 2] W fun e w' => e = .returned (.string (bstr [130, 130])) ∧ Pure W w' := fun W => lnum_any W 33410 2 (by omega) (by omega)
  have hbl : (beB r 4).length = 4 := beB_length _ _
  have hv0 : tipV id r a = shaV (id ++ beB r 4 ++ [130, 130] ++ a) := rfl
  generalize beB r 4 = b4 at n1 hbl hv0
  obtain ⟨lt, hlt⟩ : ∃ lt : List UInt8, lt = [130, 130] := ⟨_, rfl⟩
  have hltl : lt.length = 2 := by rw [hlt]; rfl
  rw [← hlt] at n2 hv0
  obtain ⟨A1, hA1⟩ : ∃ A1, A1 = id ++ b4 := ⟨_, rfl⟩
  have A1l : A1.length = id.length + 4 := by rw [hA1, List.length_append]; first | rfl | omega | (simp; omega) | simp
  have aA1 : bstr id ++ bstr b4 = bstr A1 := by rw [hA1]; exact bstr_app id b4
  have zA1 : (bstr A1).size = id.length + 4 := by rw [bstr_size, A1l]
  have nA1 : ¬ (9223372036854775807 < id.length + 4) := by omega
  obtain ⟨A2, hA2⟩ : ∃ A2, A2 = A1 ++ lt := ⟨_, rfl⟩
  have A2l : A2.length = (id.length + 4) + 2 := by rw [hA2, List.length_append]; first | rfl | omega | (simp; omega) | simp
  have aA2 : bstr A1 ++ bstr lt = bstr A2 := by rw [hA2]; exact bstr_app A1 lt
  have zA2 : (bstr A2).size = (id.length + 4) + 2 := by rw [bstr_size, A2l]
  have nA2 : ¬ (9223372036854775807 < (id.length + 4) + 2) := by omega
  obtain ⟨A3, hA3⟩ : ∃ A3, A3 = A2 ++ a := ⟨_, rfl⟩
  have A3l : A3.length = (id.length + 6) + 32 := by rw [hA3, List.length_append]; first | rfl | omega | (simp; omega) | simp
  have aA3 : bstr A2 ++ bstr a = bstr A3 := by rw [hA3]; exact bstr_app A2 a
  have zA3 : (bstr A3).size = (id.length + 6) + 32 := by rw [bstr_size, A3l]
  have nA3 : ¬ (9223372036854775807 < (id.length + 6) + 32) := by omega
  rw [← hA1, ← hA2, ← hA3] at hv0
  have zi := bstr_size id
  have z4 : (bstr b4).size = 4 := by rw [bstr_size, hbl]
  have zl : (bstr lt).size = 2 := by rw [bstr_size, hltl]
  have za : (bstr a).size = 32 := by rw [bstr_size, ha]
  have hsum := fun W => Sum_any W A3 (by omega)
  rw [← hv0] at hsum
  have hPl : (tipV id r a).length = 32 := by rw [hv0]; exact shaV_length _
  generalize tipV id r a = P at hsum hPl ⊢
  have N1 := Lib.hid n1; have N2 := Lib.hid n2; have HS0 := Lib.hid hsum
  clear n1 n2 hsum hv0 hA1 hA2 hA3 A1l A2l A3l hbl hltl hlt
  go_enter Try.func51, Try.ntmps51
  go_wp2_with (refine wpList_boxV rfl 62 _ rfl (u8s a) rfl ?_)
  intro g5 w1 e1 c1 t1 s1
  have l5 : w.heap.size ≤ g5 := by omega
  clear e1
  have DA := Lib.hid c1; have PT := Lib.hid t1
  clear c1 t1
  go_wp2_with (refine wpList_allocZ rfl 62 rfl X HZ.out ?_)
  intro g6 w2 e2 c2 t2 s2
  have l8 : g5 < g6 := by omega
  clear e2 s2 s1
  have D8 := Lib.hid c2; have DA := Lib.hid (t2.obj DA.out (fun e => e)); have PT := Lib.hid (PT.out.pure t2)
  clear c2 t2
  go_wp2_with fail
  refine wp_region_held_drew (S := fun w' => w'.heap[g5]? = some (.cells (u8s a).toArray 62 (0, 0))) (by kernel_rfl) (show w2.drew.heap[g5]? = _ from DA.out) (fun hS => ?_)
  have HS := Lib.hid hS
  have PT := Lib.hid PT.out.drew; have D8 := Lib.hid (show w2.drew.heap[g6]? = _ from D8.out)
  clear hS DA
  generalize w2.drew = w3 at *
  refine wpAnyH_take (i := 0) (v := ?_) rfl (by kernel_rfl) (by kernel_rfl) (by kernel_rfl) (fun _ _ _ h => h) (Or.inl ⟨by rfl, fun w hSw => ?_⟩) HS.out ?_
  rotate_left
  · first | (go_simp; done) | (go_simp; with_reducible rfl)
  simp only [AP]
  refine wpAnyH_take (i := 1) (v := ?_) rfl (by kernel_rfl) (by kernel_rfl) (by kernel_rfl) (fun _ _ _ h => h) (Or.inl ⟨by rfl, fun w hSw => ?_⟩) HS.out ?_
  rotate_left
  · first | (go_simp; done) | (go_simp; with_reducible rfl)
  simp only [AP]
  refine wpAnyH_take (i := 6) (v := ?_) rfl (by kernel_rfl) (by kernel_rfl) (by kernel_rfl) (fun _ _ _ h => h) (Or.inl ⟨by rfl, fun w hSw => ?_⟩) HS.out ?_
  rotate_left
  · first | (go_simp; done) | (go_simp; with_reducible rfl)
  simp only [AP]
  refine wpAnyH_take (i := 7) (v := ?_) rfl (by kernel_rfl) (by kernel_rfl) (by kernel_rfl) (fun _ _ _ h => h) (Or.inl ⟨by rfl, fun w hSw => ?_⟩) HS.out ?_
  rotate_left
  · have hcv := conv_block (P := Try.prog) w 65 5 9 62 (0, 0) Try.underlying65 Try.underlying5 Try.underlying9 g5 32 a 32 ha hSw
    first | (go_simp; done) | (go_simp; with_reducible rfl)
  simp only [AP]
  refine wpAnyH_step (i := 2) (by kernel_rfl) rfl fun K hK => ?_
  go_simp
  refine (N1.out _).mono ?_
  rintro e v1 ⟨rfl, t1⟩
  have PT := Lib.hid (PT.out.pure t1); have D8 := Lib.hid (t1.obj D8.out (fun e => e)); have HS := Lib.hid (t1.obj HS.out (fun e => e))
  clear t1
  refine hK.out _ _ HS.out ?_
  clear hK K
  try simp only [AP]
  refine wpAnyH_take (i := 3) (v := ?_) rfl (by kernel_rfl) (by kernel_rfl) (by kernel_rfl) (fun _ _ _ h => h) (Or.inl ⟨by rfl, fun w hSw => ?_⟩) HS.out ?_
  rotate_left
  · first | (go_simp; done) | (go_simp; with_reducible rfl)
  simp only [AP]
  refine wpAnyH_step (i := 4) (by kernel_rfl) rfl fun K hK => ?_
  go_simp
  refine (N2.out _).mono ?_
  rintro e v2 ⟨rfl, t2⟩
  have PT := Lib.hid (PT.out.pure t2); have D8 := Lib.hid (t2.obj D8.out (fun e => e)); have HS := Lib.hid (t2.obj HS.out (fun e => e))
  clear t2
  refine hK.out _ _ HS.out ?_
  clear hK K
  try simp only [AP]
  refine wpAnyH_take (i := 5) (v := ?_) rfl (by kernel_rfl) (by kernel_rfl) (by kernel_rfl) (fun _ _ _ h => h) (Or.inl ⟨by rfl, fun w hSw => ?_⟩) HS.out ?_
  rotate_left
  · first | (go_simp; done) | (go_simp; with_reducible rfl)
  simp only [AP]
  refine wpAnyH_take (i := 8) (v := ?_) rfl (by kernel_rfl) (by kernel_rfl) (by kernel_rfl) (fun _ _ _ h => h) (Or.inl ⟨by rfl, fun w hSw => ?_⟩) HS.out ?_
  rotate_left
  · first | (go_simp; done) | (go_simp; with_reducible rfl)
  simp only [AP]
  refine wpAnyH_step (i := 9) (by kernel_rfl) rfl fun K hK => ?_
  go_simp
  refine (HS0.out _).mono ?_
  rintro e v3 ⟨rfl, t3⟩
  have PT := Lib.hid (PT.out.pure t3); have D8 := Lib.hid (t3.obj D8.out (fun e => e)); have HS := Lib.hid (t3.obj HS.out (fun e => e))
  clear t3
  refine hK.out _ _ HS.out ?_
  clear hK K
  try simp only [AP]
  refine wpAnyH_step (i := 10) (by kernel_rfl) rfl fun K hK => ?_
  refine step_store_blk5 rfl 62 _ _ rfl g6 _ (u8s P) _ rfl rfl D8.out (size28 hXl hPl) (info28_l hPl) (u8s_one _) ?_
  intro w9 c9 t9
  have HS9 := Lib.hid (t9.obj HS.out (by omega))
  have PF := Lib.hid (PT.out.trans t9 fun q hq e => by omega : Pure w w9)
  have hO := Lib.hid c9
  refine hK.out _ _ HS9.out ?_
  clear hK K c9 t9
  try simp only [List.getElem_toArray, List.getElem_cons_succ, List.getElem_cons_zero, Act.put]
  refine wpAnyH_done (by kernel_rfl) ?_ _
  go_wp2
  exact bodyPost_ret (v := hv P) (results_cell_row Try.results51 _ _ g6 _ (u8s P).toArray _ _ rfl hO.out Try.underlying62 rfl (info28_a hPl)) rfl ⟨rfl, PF.out⟩

set_option maxRecDepth 100000 in
set_option maxHeartbeats 4000000 in
theorem join_any (w : World) (id : List UInt8) (r : Nat) (a : List UInt8) (b : List UInt8) (hid : id.length ≤ 1000) (hr : r < 4294967296) (ha : a.length = 32) (hb : b.length = 32) :
    Calls Try.prog 52 #[.string (bstr id), .int .i64 (r : Int), hv a, hv b] w fun e w' => e = .returned (hv (nodV id r a b)) ∧ Pure w w' := by
  obtain ⟨X, hXl, HZ⟩ := ex28
  have n1 := fun W => lnum_any W r 4 (by omega) (by omega)
  have n2 : ∀ W, Calls Try.prog 79 #[.int .i64 33667, .int .i64 2] W fun e w' => e = .returned (.string (bstr [131, 131])) ∧ Pure W w' := fun W => lnum_any W 33667 2 (by omega) (by omega)
  have hbl : (beB r 4).length = 4 := beB_length _ _
  have hv0 : nodV id r a b = shaV (id ++ beB r 4 ++ [131, 131] ++ a ++ b) := rfl
  generalize beB r 4 = b4 at n1 hbl hv0
  obtain ⟨lt, hlt⟩ : ∃ lt : List UInt8, lt = [131, 131] := ⟨_, rfl⟩
  have hltl : lt.length = 2 := by rw [hlt]; rfl
  rw [← hlt] at n2 hv0
  obtain ⟨A1, hA1⟩ : ∃ A1, A1 = id ++ b4 := ⟨_, rfl⟩
  have A1l : A1.length = id.length + 4 := by rw [hA1, List.length_append]; first | rfl | omega | (simp; omega) | simp
  have aA1 : bstr id ++ bstr b4 = bstr A1 := by rw [hA1]; exact bstr_app id b4
  have zA1 : (bstr A1).size = id.length + 4 := by rw [bstr_size, A1l]
  have nA1 : ¬ (9223372036854775807 < id.length + 4) := by omega
  obtain ⟨A2, hA2⟩ : ∃ A2, A2 = A1 ++ lt := ⟨_, rfl⟩
  have A2l : A2.length = (id.length + 4) + 2 := by rw [hA2, List.length_append]; first | rfl | omega | (simp; omega) | simp
  have aA2 : bstr A1 ++ bstr lt = bstr A2 := by rw [hA2]; exact bstr_app A1 lt
  have zA2 : (bstr A2).size = (id.length + 4) + 2 := by rw [bstr_size, A2l]
  have nA2 : ¬ (9223372036854775807 < (id.length + 4) + 2) := by omega
  obtain ⟨A3, hA3⟩ : ∃ A3, A3 = A2 ++ a := ⟨_, rfl⟩
  have A3l : A3.length = (id.length + 6) + 32 := by rw [hA3, List.length_append]; first | rfl | omega | (simp; omega) | simp
  have aA3 : bstr A2 ++ bstr a = bstr A3 := by rw [hA3]; exact bstr_app A2 a
  have zA3 : (bstr A3).size = (id.length + 6) + 32 := by rw [bstr_size, A3l]
  have nA3 : ¬ (9223372036854775807 < (id.length + 6) + 32) := by omega
  obtain ⟨A4, hA4⟩ : ∃ A4, A4 = A3 ++ b := ⟨_, rfl⟩
  have A4l : A4.length = (id.length + 38) + 32 := by rw [hA4, List.length_append]; first | rfl | omega | (simp; omega) | simp
  have aA4 : bstr A3 ++ bstr b = bstr A4 := by rw [hA4]; exact bstr_app A3 b
  have zA4 : (bstr A4).size = (id.length + 38) + 32 := by rw [bstr_size, A4l]
  have nA4 : ¬ (9223372036854775807 < (id.length + 38) + 32) := by omega
  rw [← hA1, ← hA2, ← hA3, ← hA4] at hv0
  have zi := bstr_size id
  have z4 : (bstr b4).size = 4 := by rw [bstr_size, hbl]
  have zl : (bstr lt).size = 2 := by rw [bstr_size, hltl]
  have za : (bstr a).size = 32 := by rw [bstr_size, ha]
  have zb : (bstr b).size = 32 := by rw [bstr_size, hb]
  have hsum := fun W => Sum_any W A4 (by omega)
  rw [← hv0] at hsum
  have hPl : (nodV id r a b).length = 32 := by rw [hv0]; exact shaV_length _
  generalize nodV id r a b = P at hsum hPl ⊢
  have N1 := Lib.hid n1; have N2 := Lib.hid n2; have HS0 := Lib.hid hsum
  clear n1 n2 hsum hv0 hA1 hA2 hA3 A1l A2l A3l hbl hltl hlt hA4 A4l
  go_enter Try.func52, Try.ntmps52
  go_wp2_with (refine wpList_boxV rfl 62 _ rfl (u8s a) rfl ?_)
  intro g5 w1 e1 c1 t1 s1
  have l5 : w.heap.size ≤ g5 := by omega
  clear e1
  have DA := Lib.hid c1; have PT := Lib.hid t1
  clear c1 t1
  go_wp2_with (refine wpList_boxV rfl 62 _ rfl (u8s b) rfl ?_)
  intro g7 w1b e1b c1b t1b s1b
  have l7 : g5 < g7 := by omega
  clear e1b s1
  have DB := Lib.hid c1b; have DA := Lib.hid (t1b.obj DA.out (fun e => e)); have PT := Lib.hid (PT.out.pure t1b)
  clear c1b t1b
  go_wp2_with (refine wpList_allocZ rfl 62 rfl X HZ.out ?_)
  intro g8 w2 e2 c2 t2 s2
  have l8 : g7 < g8 := by omega
  clear e2 s2 s1b
  have D8 := Lib.hid c2; have DA := Lib.hid (t2.obj DA.out (fun e => e)); have PT := Lib.hid (PT.out.pure t2); have DB := Lib.hid (t2.obj DB.out (fun e => e))
  clear c2 t2
  go_wp2_with fail
  refine wp_region_held_drew (S := fun w' => w'.heap[g5]? = some (.cells (u8s a).toArray 62 (0, 0)) ∧ w'.heap[g7]? = some (.cells (u8s b).toArray 62 (0, 0))) (by kernel_rfl) (show _ ∧ _ from ⟨DA.out, DB.out⟩) (fun hS => ?_)
  have HS := Lib.hid hS
  have PT := Lib.hid PT.out.drew; have D8 := Lib.hid (show w2.drew.heap[g8]? = _ from D8.out)
  clear hS DA DB
  generalize w2.drew = w3 at *
  refine wpAnyH_take (i := 0) (v := ?_) rfl (by kernel_rfl) (by kernel_rfl) (by kernel_rfl) (fun _ _ _ h => h) (Or.inl ⟨by rfl, fun w hSw => ?_⟩) HS.out ?_
  rotate_left
  · first | (go_simp; done) | (go_simp; with_reducible rfl)
  simp only [AP]
  refine wpAnyH_take (i := 1) (v := ?_) rfl (by kernel_rfl) (by kernel_rfl) (by kernel_rfl) (fun _ _ _ h => h) (Or.inl ⟨by rfl, fun w hSw => ?_⟩) HS.out ?_
  rotate_left
  · first | (go_simp; done) | (go_simp; with_reducible rfl)
  simp only [AP]
  refine wpAnyH_take (i := 6) (v := ?_) rfl (by kernel_rfl) (by kernel_rfl) (by kernel_rfl) (fun _ _ _ h => h) (Or.inl ⟨by rfl, fun w hSw => ?_⟩) HS.out ?_
  rotate_left
  · first | (go_simp; done) | (go_simp; with_reducible rfl)
  simp only [AP]
  refine wpAnyH_take (i := 9) (v := ?_) rfl (by kernel_rfl) (by kernel_rfl) (by kernel_rfl) (fun _ _ _ h => h) (Or.inl ⟨by rfl, fun w hSw => ?_⟩) HS.out ?_
  rotate_left
  · first | (go_simp; done) | (go_simp; with_reducible rfl)
  simp only [AP]
  refine wpAnyH_take (i := 7) (v := ?_) rfl (by kernel_rfl) (by kernel_rfl) (by kernel_rfl) (fun _ _ _ h => h) (Or.inl ⟨by rfl, fun w hSw => ?_⟩) HS.out ?_
  rotate_left
  · have hcv := conv_block (P := Try.prog) w 65 5 9 62 (0, 0) Try.underlying65 Try.underlying5 Try.underlying9 g5 32 a 32 ha hSw.1
    first | (go_simp; done) | (go_simp; with_reducible rfl)
  simp only [AP]
  refine wpAnyH_take (i := 10) (v := ?_) rfl (by kernel_rfl) (by kernel_rfl) (by kernel_rfl) (fun _ _ _ h => h) (Or.inl ⟨by rfl, fun w hSw => ?_⟩) HS.out ?_
  rotate_left
  · have hcv := conv_block (P := Try.prog) w 65 5 9 62 (0, 0) Try.underlying65 Try.underlying5 Try.underlying9 g7 32 b 32 hb hSw.2
    first | (go_simp; done) | (go_simp; with_reducible rfl)
  simp only [AP]
  refine wpAnyH_step (i := 2) (by kernel_rfl) rfl fun K hK => ?_
  go_simp
  refine (N1.out _).mono ?_
  rintro e v1 ⟨rfl, t1⟩
  have PT := Lib.hid (PT.out.pure t1); have D8 := Lib.hid (t1.obj D8.out (fun e => e)); have HS := Lib.hid (And.intro (t1.obj HS.out.1 (fun e => e)) (t1.obj HS.out.2 (fun e => e)))
  clear t1
  refine hK.out _ _ HS.out ?_
  clear hK K
  try simp only [AP]
  refine wpAnyH_take (i := 3) (v := ?_) rfl (by kernel_rfl) (by kernel_rfl) (by kernel_rfl) (fun _ _ _ h => h) (Or.inl ⟨by rfl, fun w hSw => ?_⟩) HS.out ?_
  rotate_left
  · first | (go_simp; done) | (go_simp; with_reducible rfl)
  simp only [AP]
  refine wpAnyH_step (i := 4) (by kernel_rfl) rfl fun K hK => ?_
  go_simp
  refine (N2.out _).mono ?_
  rintro e v2 ⟨rfl, t2⟩
  have PT := Lib.hid (PT.out.pure t2); have D8 := Lib.hid (t2.obj D8.out (fun e => e)); have HS := Lib.hid (And.intro (t2.obj HS.out.1 (fun e => e)) (t2.obj HS.out.2 (fun e => e)))
  clear t2
  refine hK.out _ _ HS.out ?_
  clear hK K
  try simp only [AP]
  refine wpAnyH_take (i := 5) (v := ?_) rfl (by kernel_rfl) (by kernel_rfl) (by kernel_rfl) (fun _ _ _ h => h) (Or.inl ⟨by rfl, fun w hSw => ?_⟩) HS.out ?_
  rotate_left
  · first | (go_simp; done) | (go_simp; with_reducible rfl)
  simp only [AP]
  refine wpAnyH_take (i := 8) (v := ?_) rfl (by kernel_rfl) (by kernel_rfl) (by kernel_rfl) (fun _ _ _ h => h) (Or.inl ⟨by rfl, fun w hSw => ?_⟩) HS.out ?_
  rotate_left
  · first | (go_simp; done) | (go_simp; with_reducible rfl)
  simp only [AP]
  refine wpAnyH_take (i := 11) (v := ?_) rfl (by kernel_rfl) (by kernel_rfl) (by kernel_rfl) (fun _ _ _ h => h) (Or.inl ⟨by rfl, fun w hSw => ?_⟩) HS.out ?_
  rotate_left
  · first | (go_simp; done) | (go_simp; with_reducible rfl)
  simp only [AP]
  refine wpAnyH_step (i := 12) (by kernel_rfl) rfl fun K hK => ?_
  go_simp
  refine (HS0.out _).mono ?_
  rintro e v3 ⟨rfl, t3⟩
  have PT := Lib.hid (PT.out.pure t3); have D8 := Lib.hid (t3.obj D8.out (fun e => e)); have HS := Lib.hid (And.intro (t3.obj HS.out.1 (fun e => e)) (t3.obj HS.out.2 (fun e => e)))
  clear t3
  refine hK.out _ _ HS.out ?_
  clear hK K
  try simp only [AP]
  refine wpAnyH_step (i := 13) (by kernel_rfl) rfl fun K hK => ?_
  refine step_store_blk5 rfl 62 _ _ rfl g8 _ (u8s P) _ rfl rfl D8.out (size28 hXl hPl) (info28_l hPl) (u8s_one _) ?_
  intro w9 c9 t9
  have HS9 := Lib.hid (And.intro (t9.obj HS.out.1 (by omega)) (t9.obj HS.out.2 (by omega)))
  have PF := Lib.hid (PT.out.trans t9 fun q hq e => by omega : Pure w w9)
  have hO := Lib.hid c9
  refine hK.out _ _ HS9.out ?_
  clear hK K c9 t9
  try simp only [List.getElem_toArray, List.getElem_cons_succ, List.getElem_cons_zero, Act.put]
  refine wpAnyH_done (by kernel_rfl) ?_ _
  go_wp2
  exact bodyPost_ret (v := hv P) (results_cell_row Try.results52 _ _ g8 _ (u8s P).toArray _ _ rfl hO.out Try.underlying62 rfl (info28_a hPl)) rfl ⟨rfl, PF.out⟩
end Go.Proofs.Ytcfbmbhkdicpfaa
