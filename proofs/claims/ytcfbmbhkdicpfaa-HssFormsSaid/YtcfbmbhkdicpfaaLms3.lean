/- Chapter 5: keys; all nodes of a tree. -/
import Derived.Test.YtcfbmbhkdicpfaaOtsX
import Derived.Test.YtcfbmbhkdicpfaaLms2
namespace Go.Proofs.Ytcfbmbhkdicpfaa
open Go.RowKit

/-- A key. -/
structure LKey where
  ots : Int
  height : Int
  id : List UInt8
  seed : List UInt8
  next : Int
/-- Its cells. -/
def lkC (k : LKey) : List Value := [.int .i64 k.ots, .int .i64 k.height, .string (bstr k.id), .string (bstr k.seed), .int .i64 k.next]
/-- The nodes by their numbers; leaves begin at m. -/
def treeN (id : List UInt8) (pub : Nat → List UInt8) (m : Nat) : Nat → Nat → List UInt8
  | 0, r => tipV id r (pub (r - m))
  | f + 1, r => if m ≤ r then tipV id r (pub (r - m)) else nodV id r (treeN id pub m f (2 * r)) (treeN id pub m f (2 * r + 1))
theorem treeN_more (id : List UInt8) (pub : Nat → List UInt8) (m : Nat) : ∀ f r, m ≤ r * 2 ^ f → treeN id pub m (f + 1) r = treeN id pub m f r
  | 0, r, h => by
    have : m ≤ r := by simpa using h
    show (if m ≤ r then tipV id r (pub (r - m)) else _) = tipV id r (pub (r - m))
    rw [if_pos this]
  | f + 1, r, h => by
    rw [treeN]
    conv => rhs; rw [treeN]
    by_cases hm : m ≤ r
    · rw [if_pos hm, if_pos hm]
    · rw [if_neg hm, if_neg hm, treeN_more id pub m f (2 * r) (by rw [Nat.pow_succ] at h; rw [Nat.mul_comm 2 r, Nat.mul_assoc, Nat.mul_comm 2]; exact h), treeN_more id pub m f (2 * r + 1) (by
        rw [Nat.pow_succ] at h
        have h1 : 2 * r * 2 ^ f = r * (2 ^ f * 2) := by rw [Nat.mul_comm 2 r, Nat.mul_assoc, Nat.mul_comm 2]
        have h2 : 2 * r * 2 ^ f ≤ (2 * r + 1) * 2 ^ f := Nat.mul_le_mul_right _ (by omega)
        omega)]
/-- A node. -/
def nodeN (id : List UInt8) (pub : Nat → List UInt8) (m r : Nat) : List UInt8 := treeN id pub m m r
theorem nodeN_leaf {id : List UInt8} {pub : Nat → List UInt8} {m r : Nat} (h : m ≤ r) : nodeN id pub m r = tipV id r (pub (r - m)) := by
  rw [nodeN]
  cases m with
  | zero => rfl
  | succ n => rw [treeN, if_pos h]
theorem nodeN_in {id : List UInt8} {pub : Nat → List UInt8} {m r : Nat} (h1 : 1 ≤ r) (h : r < m) : nodeN id pub m r = nodV id r (nodeN id pub m (2 * r)) (nodeN id pub m (2 * r + 1)) := by
  rw [nodeN, nodeN, nodeN, ← treeN_more id pub m m r (by
    have : m < 2 ^ m := Nat.lt_two_pow_self
    have h2 : 1 * 2 ^ m ≤ r * 2 ^ m := Nat.mul_le_mul_right _ h1
    omega), treeN, if_neg (by omega)]
theorem treeN_length (id : List UInt8) (pub : Nat → List UInt8) (m f r : Nat) : (treeN id pub m f r).length = 32 := by
  cases f with
  | zero => exact shaV_length _
  | succ f =>
    rw [treeN]
    split <;> exact shaV_length _
theorem nodeN_length (id : List UInt8) (pub : Nat → List UInt8) (m r : Nat) : (nodeN id pub m r).length = 32 := treeN_length _ _ _ _ _

section
variable {cells : List UInt8 → List Value}
end
/-- Hashes behind one another. -/
def hrowV (l : List (List UInt8)) : List Value := l.flatMap u8s
theorem hrowV_length : ∀ {l : List (List UInt8)}, (∀ x ∈ l, x.length = 32) → (hrowV l).length = 32 * l.length
  | [], _ => rfl
  | x :: t, h => by
    have h1 := h x (by simp)
    have h2 := hrowV_length (l := t) fun y hy => h y (by simp [hy])
    simp only [hrowV, List.flatMap_cons, List.length_append, List.length_cons, u8s_length] at h2 ⊢
    omega
theorem hrowV_take : ∀ (l : List (List UInt8)) (i : Nat), (∀ x ∈ l, x.length = 32) → (hrowV l).take (32 * i) = hrowV (l.take i) ∧ (hrowV l).drop (32 * i) = hrowV (l.drop i)
  | [], i, _ => by simp [hrowV]
  | x :: t, 0, _ => by simp [hrowV]
  | x :: t, i + 1, h => by
    have h1 := h x (by simp)
    obtain ⟨h2, h3⟩ := hrowV_take t i fun y hy => h y (by simp [hy])
    simp only [hrowV] at h2 h3
    simp only [hrowV, List.flatMap_cons, List.take_succ_cons, List.drop_succ_cons, show 32 * (i + 1) = (u8s x).length + 32 * i by rw [u8s_length, h1]; omega, List.take_length_add_append, List.drop_length_add_append, h2, h3]
    exact ⟨trivial, trivial⟩
theorem hrowV_set {l : List (List UInt8)} {i : Nat} {x : List UInt8} (h : ∀ x ∈ l, x.length = 32) (hi : i < l.length) (hx : x.length = 32) : (hrowV l).take (32 * i) ++ u8s x ++ (hrowV l).drop (32 * i + x.length) = hrowV (l.set i x) := by
  rw [(hrowV_take l i h).1, show 32 * i + x.length = 32 * (i + 1) by omega, (hrowV_take l (i + 1) h).2, List.set_eq_take_append_cons_drop, if_pos hi]
  simp [hrowV]
theorem hrowV_at {w : World} {g : Nat} {l : List (List UInt8)} {i : Nat} {x : List UInt8} {T : TypeId} (h : ∀ x ∈ l, x.length = 32) (hi : l[i]? = some x) (hg : w.heap[g]? = some (.cells (hrowV l).toArray T (0, 0))) : w.rangeAt g (32 * i) (u8s x) := by
  intro j u hj
  rw [cell_of_row w g (32 * i + j) _ _ _ hg, List.getElem?_toArray]
  have hlt := (List.getElem?_eq_some_iff.1 hi).1
  have hx : x.length = 32 := h x (List.mem_of_getElem? hi)
  have hj2 : j < 32 := by have := (List.getElem?_eq_some_iff.1 hj).1; rw [u8s_length, hx] at this; exact this
  have e : (hrowV l).drop (32 * i) = u8s x ++ hrowV (l.drop (i + 1)) := by
    rw [(hrowV_take l i h).2, List.drop_eq_getElem_cons hlt, (List.getElem?_eq_some_iff.1 hi).2]
    simp [hrowV]
  have : ((hrowV l).drop (32 * i))[j]? = some u := by rw [e, List.getElem?_append_left (by rw [u8s_length, hx]; exact hj2)]; exact hj
  rwa [List.getElem?_drop] at this
theorem hrowV_set2 {l : List (List UInt8)} {i : Nat} {x : List UInt8} (h : ∀ x ∈ l, x.length = 32) (hi : i < l.length) (hx : x.length = 32) : (hrowV l).take (i * 32) ++ u8s x ++ (hrowV l).drop (i * 32 + x.length) = hrowV (l.set i x) := by
  rw [Nat.mul_comm i 32]; exact hrowV_set h hi hx
theorem hrowV_at2 {w : World} {g : Nat} {l : List (List UInt8)} {i : Nat} {x : List UInt8} {T : TypeId} (h : ∀ x ∈ l, x.length = 32) (hi : l[i]? = some x) (hg : w.heap[g]? = some (.cells (hrowV l).toArray T (0, 0))) : w.rangeAt g (i * 32) (u8s x) := by
  rw [Nat.mul_comm i 32]; exact hrowV_at h hi hg
/-- A node is laid. -/
theorem lay_node {L : List (List UInt8)} {M r : Nat} {N : Nat → List UInt8} (hL : L.length = M ∧ ∀ x ∈ L, x.length = 32) (hJ : ∀ j, r < j → j < M → L[j]? = some (N j)) (hN : (N r).length = 32) (hr : r < M) (h0 : 0 < r) :
    ((L.set r (N r)).length = M ∧ ∀ x ∈ L.set r (N r), x.length = 32) ∧ ∀ j, r - 1 < j → j < M → (L.set r (N r))[j]? = some (N j) := by
  refine ⟨⟨by rw [List.length_set]; exact hL.1, fun x hx => ?_⟩, fun j h1 h2 => ?_⟩
  · rcases List.mem_or_eq_of_mem_set hx with h | rfl
    · exact hL.2 x h
    · exact hN
  · by_cases hj : j = r
    · subst hj
      rw [List.getElem?_set_self (by omega)]
    · rw [List.getElem?_set_ne (by omega)]
      exact hJ j (by omega) h2
/-- Bytes are written into the middle of a block. -/
theorem wpList_store_in {P : Program} {ops : Array Oper} {rest : List Oper} {op : Oper} {a : Act} {w : World} {Q : Exit → Act → World → Prop} (hgd : op.guard = none) (ty : TypeId) (x y : Operand) (ho : op.op = .store ty x y)
    (g o : Nat) (l : List UInt8) (old : List Value) (T : TypeId) (hx : a.eval x = .pointer (some ⟨g, o, none⟩)) (hy : a.eval y = hv l) (hg : w.heap[g]? = some (.cells old.toArray T (0, 0))) (hl : o + l.length ≤ old.length)
    (hi : (P.info? ty).map (·.size) = some (u8s l).length)
    (h : ∀ w', w'.heap[g]? = some (.cells (old.take o ++ u8s l ++ old.drop (o + l.length)).toArray T (0, 0)) → Turn (fun k => k = g) w w' → wpList P ops Q rest (a.put op.dst undef) w') : wpList P ops Q (op :: rest) a w := by
  refine wpList_store_mid hgd ty x y ho g o (u8s l).toArray hx hy ?_ (by simpa using hi) (all_oneCell_toArray (u8s_one _)) (h _ ?_ ?_)
  · intro j hj
    rw [cell_of_row w g (o + j) _ T (0, 0) hg, frozen_of_row w g (o + j) _ T hg]
    exact ⟨by simp [u8s_length] at hj ⊢; omega, rfl⟩
  · have := setCells_heap g (u8s l) o w _ T (0, 0) hg (by rw [u8s_length]; simpa using hl)
    rw [u8s_length] at this
    simpa using this
  · exact ⟨World.os_setCells _ _ _ _, setCells_tape _ _ _ _, World.output_setCells _ _ _ _, by rw [setCells_size]; exact Nat.le_refl _, fun q hq hn => World.heap_setCells_other w g _ _ hq hn⟩

/-- Bytes are written into the middle of a block. -/
theorem step_store_in {P : Program} {ops : Array Oper} {op : Oper} {a : Act} {w : World} {K : Act → World → Prop} {Q : Exit → Act → World → Prop} {E : Prop} (hgd : op.guard = none) (ty : TypeId) (x y : Operand) (ho : op.op = .store ty x y)
    (g o : Nat) (l : List UInt8) (old : List Value) (T : TypeId) (hx : a.eval x = .pointer (some ⟨g, o, none⟩)) (hy : a.eval y = hv l) (hg : w.heap[g]? = some (.cells old.toArray T (0, 0))) (hl : o + l.length ≤ old.length)
    (hi : (P.info? ty).map (·.size) = some (u8s l).length)
    (h : ∀ w', w'.heap[g]? = some (.cells (old.take o ++ u8s l ++ old.drop (o + l.length)).toArray T (0, 0)) → Turn (fun k => k = g) w w' → K (a.put op.dst undef) w') : if Region.wanted op (yielded ops a.tmps) = true then Oper.wp P op a w K Q else E := by
  rw [if_pos (by simp [Region.wanted, hgd])]
  refine wp_store_mid ty x y ho g o (u8s l).toArray hx hy ?_ (by simpa using hi) (all_oneCell_toArray (u8s_one _)) (h _ ?_ ?_)
  · intro j hj
    rw [cell_of_row w g (o + j) _ T (0, 0) hg, frozen_of_row w g (o + j) _ T hg]
    exact ⟨by simp [u8s_length] at hj ⊢; omega, rfl⟩
  · have := setCells_heap g (u8s l) o w _ T (0, 0) hg (by rw [u8s_length]; simpa using hl)
    rw [u8s_length] at this
    simpa using this
  · exact ⟨World.os_setCells _ _ _ _, setCells_tape _ _ _ _, World.output_setCells _ _ _ _, by rw [setCells_size]; exact Nat.le_refl _, fun q hq hn => World.heap_setCells_other w g _ _ hq hn⟩

theorem madeH (n : Nat) : madeCells (u8s (List.replicate 32 0)).toArray (n * 32) = (hrowV (List.replicate n (List.replicate 32 0))).toArray := by
  apply Array.toList_inj.1
  have hl : (hrowV (List.replicate n (List.replicate 32 (0 : UInt8)))) = List.replicate (n * 32) (u8 0) := by
    induction n with
    | zero => rfl
    | succ n ih =>
      rw [List.replicate_succ]
      simp only [hrowV, List.flatMap_cons] at ih ⊢
      rw [ih, Nat.add_mul, Nat.one_mul, Nat.add_comm, ← List.replicate_append_replicate]
      simp [u8s]
  rw [hl]
  apply List.ext_getElem
  · simp [madeCells]
  · intro i h1 h2
    simp only [madeCells, Array.toList_map, List.getElem_map, Array.toList_range, List.getElem_range, List.getElem_replicate]
    have hz : ∀ j, j < 32 → (u8s (List.replicate 32 (0 : UInt8))).toArray[j]! = u8 0 := fun j hj => by
      have hs : j < (u8s (List.replicate 32 (0 : UInt8))).toArray.size := by simp [u8s]; exact hj
      rw [getElem!_pos (u8s (List.replicate 32 (0 : UInt8))).toArray j hs]
      simp only [u8s, List.map_replicate, List.getElem_toArray, List.getElem_replicate]
    exact hz _ (Nat.mod_lt _ (by decide))
theorem make_H (w : World) (n : Nat) (hn : n ≤ 1000) : (Instr.makeSlice 46 (.int .i64 (n : Int)) (.int .i64 (n : Int))).run Try.prog w = .ok (.slice (some ⟨w.heap.size, 0, none⟩) n n) (w.alloc (.cells (hrowV (List.replicate n (List.replicate 32 0))).toArray 62)) := by
  have h : (Try.prog.info? 62).map (fun i => (i.zero, i.size, i.bytes)) = some (some (.agg (u8s (List.replicate 32 0)).toArray), 32, 32) := by kernel_rfl
  cases hi : Try.prog.info? 62 with
  | none => rw [hi] at h; simp at h
  | some i =>
    rw [hi] at h
    simp only [Option.map_some, Option.some.injEq, Prod.mk.injEq] at h
    have := run_make (P := Try.prog) w 46 62 i _ Try.underlying46 hi h.1 .i64 .i64 n n (by omega) (by omega) (by rw [h.2.2]; omega) (by omega)
    rw [this, h.2.1]
    have e : (Value.agg (u8s (List.replicate 32 0)).toArray).cells = (u8s (List.replicate 32 0)).toArray := rfl
    rw [e, Int.toNat_natCast, madeH]

/-- All nodes of a tree, in a row of its own. -/
def TreeR (w w' : World) (r : Value) (N : Nat → List UInt8) (M : Nat) : Prop := ∃ g L, r = .slice (some ⟨g, 0, none⟩) M M ∧ w'.heap[g]? = some (.cells (hrowV L).toArray 62 (0, 0)) ∧ L.length = M ∧ (∀ x ∈ L, x.length = 32) ∧ (∀ i, 0 < i → i < M → L[i]? = some (N i)) ∧ w.heap.size ≤ g

set_option maxRecDepth 100000 in
set_option maxHeartbeats 4000000 in
theorem tree_any (w : World) (k : LKey) (h : Nat) (hk : k.height = (h : Int)) (h1 : 1 ≤ h) (h5 : h ≤ 5) (hid : k.id.length = 16) : Calls Try.prog 78 #[.agg (lkC k).toArray] w fun e w' =>
    ∃ r, e = .returned r ∧ TreeR w w' r (nodeN k.id (fun (q : Nat) => (pubV k.ots k.id (q : Int) k.seed).1) (2 ^ h)) (2 * 2 ^ h) ∧ Pure w w' := by
  obtain ⟨X, hXl, HZ⟩ := ex28
  have hc : ∀ (W : World) g, W.heap[g]? = some (.cells (lkC k).toArray 68 (0, 0)) → W.cell? ⟨g, 0, none⟩ = some (.int .i64 k.ots) ∧ W.cell? ⟨g, 1, none⟩ = some (.int .i64 (h : Int)) ∧ W.cell? ⟨g, 2, none⟩ = some (.string (bstr k.id)) ∧ W.cell? ⟨g, 3, none⟩ = some (.string (bstr k.seed)) ∧ W.cell? ⟨g, 4, none⟩ = some (.int .i64 k.next) := fun W g hg => by
    rw [cell_of_row W g 0 _ _ _ hg, cell_of_row W g 1 _ _ _ hg, cell_of_row W g 2 _ _ _ hg, cell_of_row W g 3 _ _ _ hg, cell_of_row W g 4 _ _ _ hg, ← hk]
    exact ⟨rfl, rfl, rfl, rfl, rfl⟩
  have HC := Lib.hid hc
  obtain ⟨C, hC⟩ : ∃ C, C = lkC k := ⟨_, rfl⟩
  rw [← hC] at HC ⊢
  clear hc hC
  have hm32 : 2 ^ h ≤ 32 := by rcases (by omega : h = 1 ∨ h = 2 ∨ h = 3 ∨ h = 4 ∨ h = 5) with rfl | rfl | rfl | rfl | rfl <;> decide
  have hm2 : 2 ≤ 2 ^ h := by rcases (by omega : h = 1 ∨ h = 2 ∨ h = 3 ∨ h = 4 ∨ h = 5) with rfl | rfl | rfl | rfl | rfl <;> decide
  have hp0 : ((2 ^ h : Nat) : Int) = (2 : Int) ^ h := by rw [Int.natCast_pow]; rfl
  obtain ⟨m, hm⟩ : ∃ m, m = 2 ^ h := ⟨_, rfl⟩
  rw [← hm] at hm32 hm2 hp0 ⊢
  have sh1 : wrap64 ((2 : Int) ^ h) = (m : Int) := by rw [← hp0]; unfold wrap64; omega
  have sh2 : wrap64 (2 * (2 : Int) ^ h) = ((2 * m : Nat) : Int) := by rw [← hp0]; unfold wrap64; omega
  obtain ⟨M, hM⟩ : ∃ M, M = 2 * m := ⟨_, rfl⟩
  rw [← hM] at sh2 ⊢
  obtain ⟨pub, hpub⟩ : ∃ pub : Nat → List UInt8, pub = fun (q : Nat) => (pubV k.ots k.id (q : Int) k.seed).1 := ⟨_, rfl⟩
  rw [← hpub]
  have hpb : ∀ W (q : Nat), ∃ E, Calls Try.prog 123 #[.int .i64 k.ots, .string (bstr k.id), .int .i64 (q : Int), .string (bstr k.seed)] W fun e w' => e = .returned (.tuple #[hv (pub q), .int .i64 E]) ∧ Pure W w' := fun W q => by
    rw [hpub]
    exact ⟨_, Public_all W k.ots k.id (q : Int) k.seed (by omega)⟩
  have hpl : ∀ q, (pub q).length = 32 := fun q => by rw [hpub]; exact pubV_length _ _ _ _
  have htip := fun W (r : Nat) (hr : r < M) => tip_any W k.id r (pub (r - m)) (by omega) (by omega) (hpl _)
  have hjoin := fun W (r : Nat) (hr : r < M) (a b : List UInt8) (ha : a.length = 32) (hb : b.length = 32) => join_any W k.id r a b (by omega) (by omega) ha hb
  have hnl : ∀ r, m ≤ r → nodeN k.id pub m r = tipV k.id r (pub (r - m)) := fun r h => nodeN_leaf h
  have hni : ∀ r, 1 ≤ r → r < m → nodeN k.id pub m r = nodV k.id r (nodeN k.id pub m (2 * r)) (nodeN k.id pub m (2 * r + 1)) := fun r h h' => nodeN_in h h'
  have hnn : ∀ r, (nodeN k.id pub m r).length = 32 := fun r => nodeN_length _ _ _ _
  obtain ⟨N, hN⟩ : ∃ N, N = nodeN k.id pub m := ⟨_, rfl⟩
  rw [← hN] at hnl hni hnn ⊢
  have HPB := Lib.hid hpb; have HPL := Lib.hid hpl; have HTIP := Lib.hid htip; have HJOIN := Lib.hid hjoin; have HNL := Lib.hid hnl; have HNI := Lib.hid hni; have HNN := Lib.hid hnn
  have mk := fun W => make_H W M (by omega)
  obtain ⟨L0, hL0⟩ : ∃ L0 : List (List UInt8), L0 = List.replicate M (List.replicate 32 0) := ⟨_, rfl⟩
  simp only [← hL0] at mk
  have hL0l : L0.length = M := by rw [hL0]; simp
  have hL0a : ∀ x ∈ L0, x.length = 32 := fun x hx => by rw [hL0] at hx; rw [(List.mem_replicate.1 hx).2]; simp
  have HL0 := Lib.hid hL0a; have HMM := Lib.hid (And.intro hM hm)
  have hM64 : M ≤ 64 ∧ 4 ≤ M ∧ m ≤ M := by omega
  clear hpb hpl htip hjoin hnl hni hnn hN hpub hL0 hL0a hp0 hm hk hM
  go_enter Try.func78, Try.ntmps78
  go_wp2_with (refine wpList_boxV rfl 68 _ rfl C rfl ?_)
  intro g1 w1 e1 c1 t1 s1
  have l1 : w.heap.size ≤ g1 := by omega
  clear e1
  obtain ⟨_, k1, _, _, _⟩ := HC.out _ _ c1
  have D1 := Lib.hid c1; have PT := Lib.hid t1
  have n3 : w1.heap.size ≠ g1 := by omega
  have l3 : w.heap.size ≤ w1.heap.size := t1.size
  clear c1 t1 s1
  have hA : Pure w1 (w1.alloc (.cells (hrowV L0).toArray 62)) := (Turn.refl _ _).alloc _
  have D1 := Lib.hid (hA.obj D1.out (fun e => e)); have PT := Lib.hid (PT.out.pure hA)
  have D3 : Hid ((w1.alloc (.cells (hrowV L0).toArray 62)).heap[w1.heap.size]? = some (.cells (hrowV L0).toArray 62 (0, 0))) := Lib.hid (heap_alloc_new _ _)
  clear hA
  have iM : IntKind.i64.wrap ((M : Int) - 1) = (M : Int) - 1 := IntWalk.i64_in _ (by omega)
  go_wp2
  generalize w1.alloc (.cells (hrowV L0).toArray 62) = w2 at *
  generalize w1.heap.size = g3 at *
  clear k1 mk iM
  go_loopw [4] (fun i wr => ∃ (r : Nat) (L : List (List UInt8)), r < M ∧ i = .int .i64 (r : Int) ∧ Hid (L.length = M ∧ ∀ x ∈ L, x.length = 32) ∧ Hid (∀ j, r < j → j < M → L[j]? = some (N j)) ∧ Hid (wr.heap[g3]? = some (.cells (hrowV L).toArray 62 (0, 0))) ∧ Hid (wr.heap[g1]? = some (.cells C.toArray 68 (0, 0))) ∧ Hid (Pure w wr)) (fun i _ => (intOf i).toNat)
  case atStart => exact ⟨M - 1, L0, by omega, by have : ((M - 1 : Nat) : Int) = (M : Int) - 1 := by omega
                                                 rw [this], Lib.hid ⟨hL0l, HL0.out⟩, Lib.hid (fun j h1 h2 => by omega), D3, D1, PT⟩
  case round =>
    obtain ⟨r, L, hr, rfl, HL, HJ, D3, D1, HP⟩ := hrel
    by_cases hr0 : 0 < r
    · have q0 : decide (0 < (r : Int)) = true := decide_eq_true (by omega)
      have q0p : (0 : Int) < r := by omega
      have q0n : decide (0 < r) = true := decide_eq_true (by omega)
      have ir : IntKind.i64.wrap ((r : Int) - 1) = ((r - 1 : Nat) : Int) := by rw [IntWalk.i64_in _ (by omega)]; omega
      have im : IntKind.i64.wrap ((r : Int) - (m : Int)) = (r : Int) - (m : Int) := IntWalk.i64_in _ (by omega)
      have qr : (r : Int) < M := by omega
      have qr0 : (0 : Int) ≤ r := by omega
      have hcl : (hrowV L).length = 32 * M := by rw [hrowV_length HL.out.2, HL.out.1]
      have HCL := Lib.hid hcl
      clear hcl
      obtain ⟨k0, k1, k2, k3, _⟩ := HC.out _ _ D1.out
      by_cases hrm : m ≤ r
      · have q1 : decide ((0 : Int) ≤ (r : Int) - (m : Int)) = true := decide_eq_true (by omega)
        have q1p : (0 : Int) ≤ (r : Int) - (m : Int) := by omega
        have hcast : (r : Int) - (m : Int) = ((r - m : Nat) : Int) := by omega
        have hNr := HNL.out r hrm
        obtain ⟨E, _⟩ := HPB.out w (r - m)
        have HPQ : Hid (∀ W, ∃ E, Calls Try.prog 123 #[.int .i64 k.ots, .string (bstr k.id), .int .i64 ((r : Int) - (m : Int)), .string (bstr k.seed)] W fun e w' => e = .returned (.tuple #[hv (pub (r - m)), .int .i64 E]) ∧ Pure W w') := Lib.hid fun W => by
          rw [hcast]
          exact HPB.out W (r - m)
        have hpq := HPL.out (r - m)
        have HTR := Lib.hid (fun W => HTIP.out W r hr)
        rw [← hNr] at HTR
        have HNR := Lib.hid (HNN.out r)
        generalize pub (r - m) = pq at HPQ hpq HTR
        clear hNr hcast
        go_wp2_with fail
        obtain ⟨E2, hP⟩ := HPQ.out wr
        refine hP.mono ?_
        rintro e w5 ⟨rfl, t5⟩
        have D3 := Lib.hid (t5.obj D3.out (fun e => e)); have D1 := Lib.hid (t5.obj D1.out (fun e => e)); have HP := Lib.hid (HP.out.pure t5)
        have s5 : g3 < w5.heap.size := (Array.getElem?_eq_some_iff.1 D3.out).1
        have s1 : g1 < w5.heap.size := (Array.getElem?_eq_some_iff.1 D1.out).1
        clear t5 k0 k1 k2 k3 HPQ hP
        go_wp2_with (refine wpList_allocZ rfl 62 rfl X HZ.out ?_)
        intro g6 w6 e6 c6 t6 s6
        have l6 : w5.heap.size ≤ g6 := by omega
        clear e6 s6
        go_wp2_with (refine wpList_store_blk rfl 62 _ _ rfl g6 _ (u8s pq) _ rfl rfl c6 (size28 hXl hpq) (info28_l hpq) (u8s_one _) ?_)
        intro w7 c7 t7 _
        have hp7 : Pure w5 w7 := t6.trans t7 fun q hq e => by omega
        have D3 := Lib.hid (hp7.obj D3.out (fun e => e)); have D1 := Lib.hid (hp7.obj D1.out (fun e => e)); have HP := Lib.hid (HP.out.pure hp7)
        have R6 := Lib.hid (range_of_row c7)
        obtain ⟨_, _, k2, _, _⟩ := HC.out _ _ D1.out
        clear c6 t6 c7 t7 hp7
        go_wp2_with (refine wpList_load_mid rfl 62 _ rfl g6 0 rfl (u8s pq) _ R6.out Try.underlying62 rfl (info28_l hpq) ?_)
        refine (HTR.out _).mono ?_
        rintro e w8 ⟨rfl, t8⟩
        have D3 := Lib.hid (t8.obj D3.out (fun e => e)); have D1 := Lib.hid (t8.obj D1.out (fun e => e)); have HP := Lib.hid (HP.out.pure t8)
        clear t8 k2 R6 HTR
        obtain ⟨HLN, HJN⟩ := lay_node HL.out HJ.out HNR.out hr hr0
        have hset := hrowV_set2 HL.out.2 (by rw [HL.out.1]; exact hr) HNR.out
        have HLN := Lib.hid HLN; have HJN := Lib.hid HJN; have HSET := Lib.hid hset
        clear hset
        go_wp2_with (refine wpList_store_in rfl 62 _ _ rfl g3 (r * 32) (N r) _ _ rfl rfl D3.out (by rw [HCL.out, HNR.out]; omega) (info28_l HNR.out) ?_)
        intro w9 d9 t9
        first | rw [HSET.out] at d9 | rw [← List.append_assoc, HSET.out] at d9
        have D3 := Lib.hid d9; have D1 := Lib.hid (t9.obj D1.out (Ne.symm n3)); have HP := Lib.hid (HP.out.trans t9 fun q hq e => by omega : Pure w w9)
        clear d9 t9
        go_wp2
        refine ⟨?_, by simp [intOf]; omega⟩
        repeat apply Exists.intro
        refine ⟨⟨r - 1, L.set r (N r), by omega, rfl, HLN, HJN, D3, D1, HP⟩, ?_⟩
        simp only [sh2]
        rfl
      · have q1 : decide ((0 : Int) ≤ (r : Int) - (m : Int)) = false := decide_eq_false (by omega)
        have q1p : ¬ ((0 : Int) ≤ (r : Int) - (m : Int)) := by omega
        have hM2 := HMM.out.1
        have hNr := HNI.out r (by omega) (by omega)
        obtain ⟨ra, hra⟩ : ∃ ra, ra = 2 * r := ⟨_, rfl⟩
        rw [← hra] at hNr
        obtain ⟨rb, hrb⟩ : ∃ rb, rb = ra + 1 := ⟨_, rfl⟩
        rw [← hrb] at hNr
        have a1 := HJ.out ra (by omega) (by omega)
        have a2 := HJ.out rb (by omega) (by omega)
        have ha := HNN.out ra
        have hb := HNN.out rb
        have c1 := hrowV_at2 HL.out.2 a1 D3.out
        have c2 := hrowV_at2 HL.out.2 a2 D3.out
        have HTR := Lib.hid (fun W => HJOIN.out W r hr (N ra) (N rb) ha hb)
        rw [← hNr] at HTR
        have HNR := Lib.hid (HNN.out r)
        obtain ⟨HLN, HJN⟩ := lay_node HL.out HJ.out HNR.out hr hr0
        have hset := hrowV_set2 HL.out.2 (by rw [HL.out.1]; exact hr) HNR.out
        have d1 : (L.set r (N r))[ra]? = some (N ra) := by rw [List.getElem?_set_ne (by omega)]; exact a1
        have d2 : (L.set r (N r))[rb]? = some (N rb) := by rw [List.getElem?_set_ne (by omega)]; exact a2
        have HLN := Lib.hid HLN; have HJN := Lib.hid HJN; have HSET := Lib.hid hset; have HD12 := Lib.hid (And.intro d1 d2)
        have ia : IntKind.i64.wrap (2 * (r : Int)) = (ra : Int) := by rw [IntWalk.i64_in _ (by omega)]; omega
        have ib : IntKind.i64.wrap ((ra : Int) + 1) = (rb : Int) := by rw [IntWalk.i64_in _ (by omega)]; omega
        have ja : IntKind.i64.wrap (ra : Int) = ra := IntWalk.i64_in _ (by omega)
        have jb : IntKind.i64.wrap (rb : Int) = rb := IntWalk.i64_in _ (by omega)
        have xa : (ra : Int) < M := by omega
        have xb : (rb : Int) < M := by omega
        have xa0 : (0 : Int) ≤ ra := by omega
        have xb0 : (0 : Int) ≤ rb := by omega
        have hrM : r * 32 + 32 ≤ 32 * M := by omega
        generalize N ra = a at *
        generalize N rb = b at *
        clear hset d1 d2 a1 a2 hra hrb hNr hM2 k0 k3
        go_wp2_with fail
        refine wp_region_held_drew (S := fun w' => w'.rangeAt g3 (ra * 32) (u8s a) ∧ w'.rangeAt g3 (rb * 32) (u8s b) ∧ w'.cell? ⟨g1, 2, none⟩ = some (.string (bstr k.id))) (by kernel_rfl) (show _ ∧ _ ∧ _ from ⟨c1, c2, k2⟩) (fun hS => ?_)
        have HS := Lib.hid hS
        have HP := Lib.hid HP.out.drew
        have D3 := Lib.hid (show wr.drew.heap[g3]? = _ from D3.out); have D1 := Lib.hid (show wr.drew.heap[g1]? = _ from D1.out)
        clear hS c1 c2 k2
        generalize wr.drew = wr at *
        refine wpAnyH_take (i := 0) (v := ?_) rfl (by kernel_rfl) (by kernel_rfl) (by kernel_rfl) (fun _ _ _ h => h) (Or.inl ⟨by rfl, fun w hSw => ?_⟩) HS.out ?_
        rotate_left
        · obtain ⟨_, _, s2⟩ := hSw
          first | (go_simp; done) | (go_simp; with_reducible rfl)
        simp only [AP]
        refine wpAnyH_take (i := 1) (v := ?_) rfl (by kernel_rfl) (by kernel_rfl) (by kernel_rfl) (fun _ _ _ h => h) (Or.inl ⟨by rfl, fun w hSw => ?_⟩) HS.out ?_
        rotate_left
        · obtain ⟨_, _, s2⟩ := hSw
          first | (go_simp; done) | (go_simp; with_reducible rfl)
        simp only [AP]
        refine wpAnyH_take (i := 2) (v := ?_) rfl (by kernel_rfl) (by kernel_rfl) (by kernel_rfl) (fun _ _ _ h => h) (Or.inl ⟨by rfl, fun w hSw => ?_⟩) HS.out ?_
        rotate_left
        · obtain ⟨_, _, s2⟩ := hSw
          first | (go_simp; done) | (go_simp; with_reducible rfl)
        simp only [AP]
        refine wpAnyH_take (i := 3) (v := ?_) rfl (by kernel_rfl) (by kernel_rfl) (by kernel_rfl) (fun _ _ _ h => h) (Or.inl ⟨by rfl, fun w hSw => ?_⟩) HS.out ?_
        rotate_left
        · obtain ⟨_, _, s2⟩ := hSw
          first | (go_simp; done) | (go_simp; with_reducible rfl)
        simp only [AP]
        refine wpAnyH_take (i := 4) (v := ?_) rfl (by kernel_rfl) (by kernel_rfl) (by kernel_rfl) (fun _ _ _ h => h) (Or.inl ⟨by rfl, fun w hSw => ?_⟩) HS.out ?_
        rotate_left
        · obtain ⟨_, _, s2⟩ := hSw
          first | (go_simp; done) | (go_simp; with_reducible rfl)
        simp only [AP]
        refine wpAnyH_take (i := 5) (v := ?_) rfl (by kernel_rfl) (by kernel_rfl) (by kernel_rfl) (fun _ _ _ h => h) (Or.inl ⟨by rfl, fun w hSw => ?_⟩) HS.out ?_
        rotate_left
        · obtain ⟨_, _, s2⟩ := hSw
          first | (go_simp; done) | (go_simp; with_reducible rfl)
        simp only [AP]
        refine wpAnyH_take (i := 6) (v := ?_) rfl (by kernel_rfl) (by kernel_rfl) (by kernel_rfl) (fun _ _ _ h => h) (Or.inl ⟨by rfl, fun w hSw => ?_⟩) HS.out ?_
        rotate_left
        · obtain ⟨_, _, s2⟩ := hSw
          first | (go_simp; done) | (go_simp; with_reducible rfl)
        simp only [AP]
        refine wpAnyH_take (i := 7) (v := ?_) rfl (by kernel_rfl) (by kernel_rfl) (by kernel_rfl) (fun _ _ _ h => h) (Or.inl ⟨by rfl, fun w hSw => ?_⟩) HS.out ?_
        rotate_left
        · obtain ⟨_, _, s2⟩ := hSw
          first | (go_simp; done) | (go_simp; with_reducible rfl)
        simp only [AP]
        refine wpAnyH_take (i := 8) (v := ?_) rfl (by kernel_rfl) (by kernel_rfl) (by kernel_rfl) (fun _ _ _ h => h) (Or.inl ⟨by rfl, fun w hSw => ?_⟩) HS.out ?_
        rotate_left
        · obtain ⟨_, _, s2⟩ := hSw
          first | (go_simp; done) | (go_simp; with_reducible rfl)
        simp only [AP]
        refine wpAnyH_take (i := 9) (v := hv a) rfl (by kernel_rfl) (by kernel_rfl) (by kernel_rfl) (fun _ _ _ h => h) (yieldsIf_load_mid (by rfl) 62 _ rfl g3 (ra * 32) rfl (u8s a) _ (fun w h => h.1) Try.underlying62 rfl (info28_l ha)) HS.out ?_
        simp only [AP]
        refine wpAnyH_take (i := 10) (v := ?_) rfl (by kernel_rfl) (by kernel_rfl) (by kernel_rfl) (fun _ _ _ h => h) (Or.inl ⟨by rfl, fun w hSw => ?_⟩) HS.out ?_
        rotate_left
        · obtain ⟨_, _, s2⟩ := hSw
          first | (go_simp; done) | (go_simp; with_reducible rfl)
        simp only [AP]
        refine wpAnyH_take (i := 11) (v := ?_) rfl (by kernel_rfl) (by kernel_rfl) (by kernel_rfl) (fun _ _ _ h => h) (Or.inl ⟨by rfl, fun w hSw => ?_⟩) HS.out ?_
        rotate_left
        · obtain ⟨_, _, s2⟩ := hSw
          first | (go_simp; done) | (go_simp; with_reducible rfl)
        simp only [AP]
        refine wpAnyH_take (i := 12) (v := ?_) rfl (by kernel_rfl) (by kernel_rfl) (by kernel_rfl) (fun _ _ _ h => h) (Or.inl ⟨by rfl, fun w hSw => ?_⟩) HS.out ?_
        rotate_left
        · obtain ⟨_, _, s2⟩ := hSw
          first | (go_simp; done) | (go_simp; with_reducible rfl)
        simp only [AP]
        refine wpAnyH_take (i := 13) (v := ?_) rfl (by kernel_rfl) (by kernel_rfl) (by kernel_rfl) (fun _ _ _ h => h) (Or.inl ⟨by rfl, fun w hSw => ?_⟩) HS.out ?_
        rotate_left
        · obtain ⟨_, _, s2⟩ := hSw
          first | (go_simp; done) | (go_simp; with_reducible rfl)
        simp only [AP]
        refine wpAnyH_take (i := 14) (v := ?_) rfl (by kernel_rfl) (by kernel_rfl) (by kernel_rfl) (fun _ _ _ h => h) (Or.inl ⟨by rfl, fun w hSw => ?_⟩) HS.out ?_
        rotate_left
        · obtain ⟨_, _, s2⟩ := hSw
          first | (go_simp; done) | (go_simp; with_reducible rfl)
        simp only [AP]
        refine wpAnyH_take (i := 15) (v := hv b) rfl (by kernel_rfl) (by kernel_rfl) (by kernel_rfl) (fun _ _ _ h => h) (yieldsIf_load_mid (by rfl) 62 _ rfl g3 (rb * 32) rfl (u8s b) _ (fun w h => h.2.1) Try.underlying62 rfl (info28_l hb)) HS.out ?_
        simp only [AP]
        refine wpAnyH_step (i := 16) (by kernel_rfl) rfl fun K hK => ?_
        go_simp
        refine (HTR.out _).mono ?_
        rintro e w8 ⟨rfl, t8⟩
        have D3 := Lib.hid (t8.obj D3.out (fun e => e)); have D1 := Lib.hid (t8.obj D1.out (fun e => e)); have HP := Lib.hid (HP.out.pure t8); have HS := Lib.hid (And.intro (t8.range HS.out.1 (fun e => e)) (And.intro (t8.range HS.out.2.1 (fun e => e)) (t8.cell HS.out.2.2 (fun e => e))))
        clear t8
        refine hK.out _ _ HS.out ?_
        clear hK K
        try simp only [AP]
        refine wpAnyH_take (i := 17) (v := ?_) rfl (by kernel_rfl) (by kernel_rfl) (by kernel_rfl) (fun _ _ _ h => h) (Or.inl ⟨by rfl, fun w hSw => ?_⟩) HS.out ?_
        rotate_left
        · obtain ⟨_, _, s2⟩ := hSw
          first | (go_simp; done) | (go_simp; with_reducible rfl)
        simp only [AP]
        refine wpAnyH_step (i := 18) (by kernel_rfl) rfl fun K hK => ?_
        refine step_store_in rfl 62 _ _ rfl g3 (r * 32) (N r) _ _ rfl rfl D3.out (by rw [HCL.out, HNR.out]; exact hrM) (info28_l HNR.out) ?_
        intro w9 d9 t9
        first | rw [HSET.out] at d9 | rw [← List.append_assoc, HSET.out] at d9
        have HS9 := Lib.hid (And.intro (hrowV_at2 HLN.out.2 HD12.out.1 d9) (And.intro (hrowV_at2 HLN.out.2 HD12.out.2 d9) (t9.cell HS.out.2.2 (Ne.symm n3))))
        have D3 := Lib.hid d9; have D1 := Lib.hid (t9.obj D1.out (Ne.symm n3)); have HP := Lib.hid (HP.out.trans t9 fun q hq e => by omega : Pure w w9)
        refine hK.out _ _ HS9.out ?_
        clear hK K d9 t9
        try simp only [List.getElem_toArray, List.getElem_cons_succ, List.getElem_cons_zero, Act.put]
        refine wpAnyH_done (by kernel_rfl) ?_ _
        go_wp2
        refine ⟨?_, by simp [intOf]; omega⟩
        repeat apply Exists.intro
        refine ⟨⟨r - 1, L.set r (N r), by omega, rfl, HLN, HJN, D3, D1, HP⟩, ?_⟩
        simp only [sh2]
        rfl
    · have q0 : ¬ ((0 : Int) < r) := by omega
      obtain rfl : r = 0 := by omega
      go_wp2
      go_ret
      exact ⟨_, rfl, ⟨g3, L, rfl, D3.out, HL.out.1, HL.out.2, fun i h1 h2 => HJ.out i h1 h2, l3⟩, HP.out⟩
end Go.Proofs.Ytcfbmbhkdicpfaa
