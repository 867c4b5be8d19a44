/- Words that the walks of this seat share: what a call leaves as it was; bytes and texts; a number's bytes. -/
import Derived.BigQuiet
import Derived.Deep.AppendSrc
import Derived.Deep.MidRow
import Derived.Deep.QuietTactic
import Derived.Deep.Upon
import Derived.Great.BuildSlice
import Derived.Laws.BytesArg
import Derived.Laws.IdiomCopy
import Derived.Lib.ConvBytes
import Derived.Lib.Hide
import Derived.StillTailTactics
import Derived.Stop.BytesEq
import Derived.WalkKit
import Derived.WalkLawsBesides
import Derived.WalkSpells
namespace Go.Proofs.Ytigkmdjdnkbdkaa
open Go.RowKit

/-- From w to w' nothing has turned but blocks of S, and new ones. -/
structure Turn (S : Nat → Prop) (w w' : World) : Prop where
  os : w'.os = w.os
  tape : w'.tape = w.tape
  output : w'.output = w.output
  size : w.heap.size ≤ w'.heap.size
  block : ∀ k, k < w.heap.size → ¬ S k → w'.heap[k]? = w.heap[k]?

abbrev Pure (w w' : World) : Prop := Turn (fun _ => False) w w'

theorem Turn.refl (S : Nat → Prop) (w : World) : Turn S w w := ⟨rfl, rfl, rfl, Nat.le_refl _, fun _ _ _ => rfl⟩
theorem Turn.mono {S S' : Nat → Prop} {w w' : World} (h : Turn S w w') (hs : ∀ k, k < w.heap.size → S k → S' k) : Turn S' w w' :=
  ⟨h.os, h.tape, h.output, h.size, fun k hk hn => h.block k hk fun hS => hn (hs k hk hS)⟩
theorem Turn.trans {S S' : Nat → Prop} {a b c : World} (h : Turn S a b) (k : Turn S' b c) (hs : ∀ i, i < a.heap.size → S' i → S i) : Turn S a c :=
  ⟨k.os.trans h.os, k.tape.trans h.tape, k.output.trans h.output, Nat.le_trans h.size k.size, fun i hi hn => (k.block i (Nat.lt_of_lt_of_le hi h.size) fun hS => hn (hs i hi hS)).trans (h.block i hi hn)⟩
theorem Turn.pure {S : Nat → Prop} {a b c : World} (h : Turn S a b) (k : Pure b c) : Turn S a c := h.trans k fun _ _ hf => hf.elim
theorem Turn.alloc {S : Nat → Prop} {a w : World} (h : Turn S a w) (o : Obj) : Turn S a (w.alloc o) :=
  h.pure ⟨rfl, rfl, rfl, by simp, fun k hk _ => Below.heap_alloc _ _ _ hk⟩
theorem Turn.drew {S : Nat → Prop} {a w : World} (h : Turn S a w) : Turn S a w.drew := ⟨h.os, h.tape, h.output, h.size, h.block⟩
theorem Turn.drewN {S : Nat → Prop} {a w : World} (h : Turn S a w) (n : Nat) : Turn S a (w.drewN n) := ⟨h.os, h.tape, h.output, h.size, h.block⟩
theorem Turn.setCell {S : Nat → Prop} {a w : World} (h : Turn S a w) {p : Addr} (hp : p.block < a.heap.size → S p.block) (u : Value) : Turn S a (w.setCell p u) :=
  h.trans (S' := fun k => k = p.block) ⟨rfl, rfl, rfl, by simp [World.setCell], fun k _ hn => Below.heap_setCell _ _ _ _ hn⟩ fun i hi e => by subst e; exact hp hi
theorem Turn.grown {S : Nat → Prop} {a w w' : World} {row : Option Nat} (h : Turn S a w) (hg : w.grownBy w' row) (hr : ∀ k, row = some k → k < a.heap.size → S k) : Turn S a w' :=
  h.trans (S' := fun k => row = some k) ⟨hg.os, hg.tape, hg.output, hg.size, fun k hk hn => hg.block k hk fun e => hn e.symm⟩ fun i hi e => hr i e hi
theorem Turn.below {B : Nat} {w w' : World} (h : Turn (fun k => B ≤ k) w w') (_hB : B ≤ w.heap.size) : Below B w w' :=
  ⟨h.os, h.tape, h.output, h.size, fun k hk => h.block k (by omega) (by omega)⟩
theorem Turn.ofBelow {w w' : World} (h : Below w.heap.size w w') : Pure w w' := ⟨h.os, h.tape, h.output, h.size, fun k hk _ => h.block k hk⟩
theorem Turn.cell {S : Nat → Prop} {w w' : World} (h : Turn S w w') {p : Addr} {v : Value} (hc : w.cell? p = some v) (hn : ¬ S p.block) : w'.cell? p = some v :=
  (World.cell?_of_block (h.block p.block (World.block_lt_of_cell? w p hc) hn)).trans hc
theorem Turn.obj {S : Nat → Prop} {w w' : World} (h : Turn S w w') {k : Nat} {o : Obj} (hc : w.heap[k]? = some o) (hn : ¬ S k) : w'.heap[k]? = some o :=
  (h.block k (Array.getElem?_eq_some_iff.1 hc).1 hn).trans hc
theorem Turn.own {S : Nat → Prop} {w w' : World} (h : Turn S w w') {base : Nat} {e : TypeId} {size n : Nat} {v : Value} {xs : List Value} (ho : w.ownsRow base e size v n xs) (hn : ∀ k, v.ownBlock = some k → ¬ S k) : w'.ownsRow base e size v n xs := by
  refine ⟨ho.1, ?_⟩
  rcases ho.2 with h2 | ⟨g, cap, cur, hv, hg, hh, r⟩
  · exact Or.inl h2
  · exact Or.inr ⟨g, cap, cur, hv, hg, h.obj hh (hn g (by rw [hv]; rfl)), r⟩

/-- A text of bytes. -/
def bstr (l : List UInt8) : ByteArray := ⟨l.toArray⟩
theorem bstr_size (l : List UInt8) : (bstr l).size = l.length := by simp [bstr, ByteArray.size]
theorem bstr_data (l : List UInt8) : (bstr l).data.toList = l := by simp [bstr]
theorem bstr_eta (s : ByteArray) : bstr s.data.toList = s := by cases s; simp [bstr]
@[simp, go_sem] theorem bstr_toList (l : List UInt8) : (bstr l).toList = l := by rw [ByteArray.toList_eq, bstr_data]
theorem bstr_inj {a b : List UInt8} (h : bstr a = bstr b) : a = b := by
  have := congrArg (fun s : ByteArray => s.data.toList) h; simpa [bstr] using this
theorem bstr_app (a b : List UInt8) : bstr a ++ bstr b = bstr (a ++ b) := by
  have h : (bstr a ++ bstr b).data = (bstr (a ++ b)).data := by rw [ByteArray.data_append]; simp [bstr]
  exact ByteArray.ext h
theorem bstr_ext (l : List UInt8) (i j : Nat) : (bstr l).extract i j = bstr ((l.take j).drop i) := by
  have h : ((bstr l).extract i j).data = (bstr ((l.take j).drop i)).data := by
    rw [ByteArray.data_extract]; apply Array.toList_inj.1; simp [bstr, List.extract_eq_take_drop, List.drop_take]
  exact ByteArray.ext h

theorem bstr_get (l : List UInt8) (k : Nat) (h : k < (bstr l).size) : (bstr l)[k] = l.getD k 0 := by
  have h' : k < l.length := by rwa [bstr_size] at h
  simp [bstr, ByteArray.getElem_eq_getElem_data, List.getD, h']
theorem or8 (X : Nat) (b : Int) (hX : X < 18014398509481984) (h0 : 0 ≤ b) (h1 : b < 256) : bits .or .i64 ((X : Int) * 256) b = (X : Int) * 256 + b := by
  refine bits_join .i64 62 (by decide) (fun n a c => ?_) 8 _ _ (by omega) (by omega) (by omega) h0 (by omega) (by omega)
  rw [IntKind.wrap_i64]
  omega
theorem wrap_byte (b : UInt8) : wrap64 (b.toNat : Int) = (b.toNat : Int) := by
  have := b.toNat_lt
  unfold wrap64
  omega
theorem ownsRow_shape {w : World} {e : TypeId} {size n : Nat} {v : Value} {xs : List Value} (h : w.ownsRow 0 e size v n xs) : ∃ ao c, v = .slice ao n c ∧ n ≤ c := by
  rcases h.2 with ⟨rfl, rfl⟩ | ⟨g, cap, cur, rfl, _, _, hn, _⟩
  · exact ⟨none, 0, rfl, Nat.le_refl _⟩
  · exact ⟨_, _, rfl, hn⟩
/-- Parts behind one another. -/
def catB (ps : List (List UInt8)) : List UInt8 := ps.flatten
theorem catB_take_succ (ps : List (List UInt8)) (k : Nat) (h : k < ps.length) : catB (ps.take (k + 1)) = catB (ps.take k) ++ ps.getD k [] := by
  have e : ps.take (k + 1) = ps.take k ++ [ps.getD k []] := by rw [List.take_add_one]; simp [List.getD, h]
  rw [e]; simp [catB]
theorem catB_take_all (ps : List (List UInt8)) : catB (ps.take ps.length) = catB ps := by rw [List.take_length]
theorem catB_take_le (ps : List (List UInt8)) (k : Nat) : (catB (ps.take k)).length ≤ (catB ps).length := by
  have e : catB ps = catB (ps.take k) ++ catB (ps.drop k) := by simp only [catB]; rw [← List.flatten_append, List.take_append_drop]
  rw [e]; simp

/-- A byte as a cell. -/
def u8 (b : UInt8) : Value := .int .u8 (b.toNat : Int)
def u8s (l : List UInt8) : List Value := l.map u8
theorem u8s_length (l : List UInt8) : (u8s l).length = l.length := by simp [u8s]

theorem byteCells_u8s (s : ByteArray) : byteCells s = u8s s.data.toList := rfl
theorem u8s_one (l : List UInt8) : ∀ u ∈ u8s l, u.oneCell' = true := by
  intro u hu
  obtain ⟨b, _, rfl⟩ := List.mem_map.1 hu
  rfl
theorem u8s_app (a b : List UInt8) : u8s (a ++ b) = u8s a ++ u8s b := by simp [u8s]

theorem setCells_tape (w : World) (b : Nat) : ∀ (o : Nat) (vs : List Value), (w.setCells b o vs).tape = w.tape := by
  intro o vs
  induction vs generalizing o w with
  | nil => rfl
  | cons v vs ih => rw [World.setCells, ih]; rfl
theorem setCells_size (w : World) (b : Nat) : ∀ (o : Nat) (vs : List Value), (w.setCells b o vs).heap.size = w.heap.size := by
  intro o vs
  induction vs generalizing o w with
  | nil => rfl
  | cons v vs ih => rw [World.setCells, ih]; simp [World.setCell]
theorem setCells_heap (b : Nat) : ∀ (vs : List Value) (o : Nat) (w : World) (cur : Array Value) (e : TypeId) (fr : Nat × Nat), w.heap[b]? = some (.cells cur e fr) → o + vs.length ≤ cur.size →
    (w.setCells b o vs).heap[b]? = some (.cells (cur.toList.take o ++ vs ++ cur.toList.drop (o + vs.length)).toArray e fr)
  | [], o, w, cur, e, fr, h, _ => by simp [World.setCells, h]
  | v :: vs, o, w, cur, e, fr, h, hl => by
    have h1 : (w.setCell ⟨b, o, none⟩ v).heap[b]? = some (.cells (cur.setIfInBounds o v) e fr) := by
      simp [World.setCell, Array.getElem?_modify, h]
    have h2 := setCells_heap b vs (o + 1) (w.setCell ⟨b, o, none⟩ v) (cur.setIfInBounds o v) e fr h1 (by simp at hl ⊢; omega)
    rw [World.setCells, h2]
    congr 2
    have ho : o < cur.toList.length := by simp at hl ⊢; omega
    have hd : (cur.toList.set o v).drop (o + 1 + vs.length) = cur.toList.drop (o + 1 + vs.length) := by
      rw [List.drop_set_of_lt (by omega)]
    simp only [Array.toList_setIfInBounds, hd, List.length_cons]
    rw [List.take_add_one, List.take_set_of_le (Nat.le_refl _), List.getElem?_set_self ho]
    simp [Nat.add_assoc, Nat.add_comm 1]

/-- 'append' onto a row of the program's own: the row is longer, in its own block or in a new one. -/
theorem append_turn {P : Program} (w : World) (t tx ty e : TypeId) (i : TypeInfo) (z : Value) (size bytes : Nat) (ht : P.underlying t = some (.slice e)) (hi : P.info? e = some i) (hz : i.zero = some z)
    (hsize : i.size = size) (hby : i.bytes = bytes) (hzs : z.cells.size = size) (v : Value) (n : Nat) (xs : List Value) (hown : w.ownsRow 0 e size v n xs) (x : Value) (m : Nat) (news : List Value) (hs : Src P size tx x m news w)
    (h63 : n + m ≤ 9223372036854775807) (hbytes : (n + m) * bytes ≤ 140737488355328) :
    ∃ v' w', (Builtin.append_ #[t, tx] ty #[v, x]).run P w = .ok v' w' ∧ w'.ownsRow 0 e size v' (n + m) (xs ++ news) ∧ Turn (fun k => v.ownBlock = some k) w w' ∧
      (v'.ownBlock = v.ownBlock ∨ v'.ownBlock = some w.heap.size) ∧ (v' = .slice none 0 0 ↔ v = .slice none 0 0 ∧ m = 0) := by
  subst hsize
  subst hby
  have hlen : (xs ++ news).length = (n + m) * i.size := by rw [List.length_append, hown.1, hs.newsLen, Nat.add_mul]
  have hmax : n + m ≤ maxLen := by simp only [maxLen]; omega
  have grown : ∀ (b : Option Addr) (cap : Nat), v = .slice b n cap → cap < n + m → (Builtin.firstCells i.size n (.slice b n cap)).run P w.drew = .ok xs.toArray w.drew →
      ∃ v' w', (Builtin.append_ #[t, tx] ty #[v, x]).run P w = .ok v' w' ∧ w'.ownsRow 0 e i.size v' (n + m) (xs ++ news) ∧ Turn (fun k => v.ownBlock = some k) w w' ∧
      (v'.ownBlock = v.ownBlock ∨ v'.ownBlock = some w.heap.size) ∧ (v' = .slice none 0 0 ↔ v = .slice none 0 0 ∧ m = 0) := by
    intro b cap hv hc hf
    subst hv
    have hr := run_append_grow_src (P := P) w t tx ty e i z ht hi hz b n cap xs hf x m news hs hc (by omega) (growslice_fits hc hbytes)
    have hge := grownCap_ge w (n + m) cap e
    have hcm : grownCap w (n + m) cap e ≤ maxLen := grownCap_le_maxLen w (n + m) cap e hmax
    refine ⟨_, _, hr, ⟨hlen, .inr ⟨w.heap.size, _, _, rfl, Nat.zero_le _, heap_alloc_new w.drew _, hge, hcm, ?_, ?_⟩⟩, (Turn.refl _ _).drew.alloc _, .inr rfl, by constructor <;> intro h <;> simp at h; omega⟩
    · simp only [Array.size_append, List.size_toArray, size_zeroCells, hzs, hlen, ← Nat.add_mul]
      congr 1
      omega
    · simp only [Array.toList_append]
      rw [← hlen]
      exact List.take_left
  rcases hown.2 with ⟨hv, h0⟩ | ⟨g, cap, cur, hv, _, hg, hnc, hcm, hcs, htake⟩
  · subst h0
    have hx : xs = [] := List.eq_nil_of_length_eq_zero (by simpa using hown.1)
    subst hx
    by_cases hm : m = 0
    · subst hm
      have hn : news = [] := List.eq_nil_of_length_eq_zero (by simpa using hs.newsLen)
      subst hn
      have hr : (Builtin.append_ #[t, tx] ty #[v, x]).run P w = .ok (.slice none 0 0) w := by
        subst hv
        rcases hs.kind with ⟨e', hk⟩ | hk <;> simp [Builtin.append_, run_underlying ht, run_underlying hk, sizeOf, typeInfo, hi, hs.len, hs.cells]
      exact ⟨_, _, hr, World.ownsRow_nil w 0 e i.size, Turn.refl _ _, .inl (by rw [hv]), by simp [hv]⟩
    · exact grown none 0 hv (by omega) (run_firstCells_none w.drew i.size 0 0 0)
  · by_cases hroom : n + m ≤ cap
    · have hsz : n * i.size + news.length ≤ cur.size := by rw [hs.newsLen, hcs, ← Nat.add_mul]; exact Nat.mul_le_mul_right _ hroom
      have hr := run_append_room_src (P := P) w t tx ty e i ht hi g 0 n cap x m news hs hroom
        (fun j hj => by rw [cell_of_row w g _ cur e (0, 0) hg]; simp; omega) (fun j hj => by simp [World.frozen?, hg])
      have hh := setCells_heap g news (0 + n * i.size) w cur e (0, 0) hg (by omega)
      refine ⟨_, _, by rw [hv]; exact hr, ⟨hlen, .inr ⟨g, cap, _, rfl, Nat.zero_le _, hh, hroom, hcm, ?_, ?_⟩⟩, ⟨World.os_setCells _ _ _ _, ?_, World.output_setCells _ _ _ _, ?_, ?_⟩, .inl (by rw [hv]; rfl), by rw [hv]; simp⟩
      · simp only [List.size_toArray, List.length_append, List.length_take, List.length_drop, Array.length_toList]; omega
      · simp only [Nat.zero_add]
        rw [htake, ← hlen]
        exact List.take_left
      · exact setCells_tape _ _ _ _
      · rw [setCells_size]; exact Nat.le_refl _
      · intro k hk hn
        exact World.heap_setCells_other w g _ news hk (fun e => hn (by rw [hv, e]; rfl))
    · have holds : ∀ j u, xs[j]? = some u → w.cell? ((⟨g, 0, none⟩ : Addr).add j) = some u := hown.cells (g := g) (by rw [hv]; rfl)
      exact grown (some ⟨g, 0, none⟩) cap hv (by omega) (run_firstCells_some w.drew i.size n ⟨g, 0, none⟩ n cap xs hown.1 (by simpa using holds))

/-- The same at the operation. -/
theorem wpList_append_turn {P : Program} (w : World) {ops : Array Oper} {rest : List Oper} {o : Oper} {a : Act} {Q : Exit → Act → World → Prop} (hgd : o.guard = none) (sl x : Operand) (t tx e : TypeId)
    (ho : o.op = .call { callee := .builtin .append, args := #[sl, x], argTypes := #[t, tx] }) (i : TypeInfo) (z : Value) (size bytes : Nat) (ht : P.underlying t = some (.slice e)) (hi : P.info? e = some i) (hz : i.zero = some z)
    (hsize : i.size = size) (hby : i.bytes = bytes) (hzs : z.cells.size = size) (v : Value) (n : Nat) (xs : List Value) (hv : a.eval sl = v) (hown : w.ownsRow 0 e size v n xs) (xv : Value) (hx : a.eval x = xv) (m : Nat) (news : List Value)
    (hs : Src P size tx xv m news w) (h63 : n + m ≤ 9223372036854775807) (hbytes : (n + m) * bytes ≤ 140737488355328)
    (h : ∀ ao c w', w'.ownsRow 0 e size (.slice ao (n + m) c) (n + m) (xs ++ news) → Turn (fun k => v.ownBlock = some k) w w' → Hid ((Value.slice ao (n + m) c).ownBlock = v.ownBlock ∨ (Value.slice ao (n + m) c).ownBlock = some w.heap.size) → wpList P ops Q rest (a.put o.dst (.slice ao (n + m) c)) w') :
    wpList P ops Q (o :: rest) a w := by
  refine wpList_plain hgd fun K hK => ?_
  obtain ⟨v', w', hr, h2, h3, h4, _⟩ := append_turn (P := P) w t tx o.type e i z size bytes ht hi hz hsize hby hzs v n xs hown xv m news hs h63 hbytes
  unfold Oper.wp execOp
  simp only [ho, resolve, invoke, builtin, Sem.run_bind, Sem.run_pure, Result.andThen_ok, List.map_toArray, List.map_cons, List.map_nil, hv, hx, hr]
  obtain ⟨ao, c, rfl, _⟩ := ownsRow_shape h2
  exact hK _ _ (h ao c w' h2 h3 h4)

/-- Bytes as an array's value. -/
abbrev hv (l : List UInt8) : Value := .agg (u8s l).toArray
theorem strOf_bytes (l : List UInt8) : strOfNums (l.map fun b => (b.toNat : Int)) = bstr l := by
  have h : (strOfNums (l.map fun b => (b.toNat : Int))).data.toList = l := by rw [strOfNums_data, List.map_map]; exact (List.map_congr_left fun b _ => by simp).trans (List.map_id l)
  rw [← bstr_eta (strOfNums _), h]
/-- Bytes that lie in a block, as a text. -/
theorem conv_cells {P : Program} (w : World) (src e dst : TypeId) (hs : P.underlying src = some (.slice e)) (he : P.underlying e = some (.int .u8)) (hd : P.underlying dst = some .string) (b off len cap : Nat) (l : List UInt8) (hlen : l.length = len)
    (hcell : ∀ i, i < len → w.cell? ⟨b, off + i, none⟩ = some (u8 (l.getD i 0))) : (convert src dst (.slice (some ⟨b, off, none⟩) len cap)).run P w = .ok (.string (bstr l)) w := by
  have h := run_convert_bytes_arg (P := P) w src e hs he b off len cap (l.map fun b => (b.toNat : Int)) (by simpa using hlen) (fun i hi => by rw [hcell i hi]; simp [u8, List.getD, show i < l.length by omega]) dst hd
  rwa [strOf_bytes] at h
theorem conv_block {P : Program} (w : World) (src e dst T : TypeId) (fr : Nat × Nat) (hs : P.underlying src = some (.slice e)) (he : P.underlying e = some (.int .u8)) (hd : P.underlying dst = some .string) (b cap : Nat) (l : List UInt8) (n : Nat) (hlen : l.length = n)
    (hb : w.heap[b]? = some (.cells (u8s l).toArray T fr)) : (convert src dst (.slice (some ⟨b, 0, none⟩) n cap)).run P w = .ok (.string (bstr l)) w :=
  conv_cells w src e dst hs he hd b 0 n cap l hlen fun i hi => by rw [Nat.zero_add, cell_of_row w b i _ _ _ hb]; simp [u8s, List.getD, show i < l.length by omega]

/-- A whole block is written. -/
theorem wpList_store_blk {P : Program} {ops : Array Oper} {rest : List Oper} {op : Oper} {a : Act} {w : World} {Q : Exit → Act → World → Prop} (hgd : op.guard = none) (ty : TypeId) (x y : Operand) (ho : op.op = .store ty x y)
    (g : Nat) (old : Array Value) (cs : List Value) (T : TypeId) (hx : a.eval x = .pointer (some ⟨g, 0, none⟩)) (hy : a.eval y = .agg cs.toArray) (hg : w.heap[g]? = some (.cells old T (0, 0))) (hs : old.size = cs.length)
    (hi : (P.info? ty).map (·.size) = some cs.length) (h1 : ∀ v ∈ cs, v.oneCell' = true)
    (h : ∀ w', w'.heap[g]? = some (.cells cs.toArray T (0, 0)) → Turn (fun k => k = g) w w' → w'.heap.size = w.heap.size → wpList P ops Q rest (a.put op.dst undef) w') : wpList P ops Q (op :: rest) a w := by
  refine wpList_store_mid hgd ty x y ho g 0 cs.toArray hx hy ?_ (by simpa using hi) (all_oneCell_toArray h1) (h _ ?_ ?_ ?_)
  · intro j hj
    rw [Nat.zero_add, cell_of_row w g j old T (0, 0) hg, frozen_of_row w g j old T hg]
    exact ⟨by simp at hj ⊢; omega, rfl⟩
  · have := setCells_heap g cs 0 w old T (0, 0) hg (by omega)
    rw [this]
    simp [List.drop_eq_nil_of_le, hs]
  · exact ⟨World.os_setCells _ _ _ _, setCells_tape _ _ _ _, World.output_setCells _ _ _ _, by rw [setCells_size]; exact Nat.le_refl _, fun k hk hn => World.heap_setCells_other w g _ _ hk hn⟩
  · exact setCells_size _ _ _ _

theorem bytesWorld_turn {S : Nat → Prop} {a w : World} (h : Turn S a w) (e : TypeId) (s : ByteArray) : Turn S a (Lib.bytesWorld w e s) :=
  h.pure ⟨rfl, rfl, rfl, by rw [Lib.bytesWorld_size]; omega, fun k hk _ => Lib.bytesWorld_at_old w e s k hk⟩

/-- 'copy' that fills a whole block. -/
theorem wpList_copy_whole {P : Program} {w : World} {ops : Array Oper} {rest : List Oper} {o : Oper} {a : Act} {Q : Exit → Act → World → Prop} (hgd : o.guard = none) (d s : Operand) (dT sT : TypeId)
    (ho : o.op = .call { callee := .builtin .copy, args := #[d, s], argTypes := #[dT, sT] }) (elem : TypeId) (i : TypeInfo) (hu : P.underlying dT = some (.slice elem)) (hi : P.info? elem = some i) (hsz : i.size = 1)
    (g n cap : Nat) (x : Value) (hd : a.eval d = .slice (some ⟨g, 0, none⟩) n cap) (hx : a.eval s = x) (old : Array Value) (T : TypeId) (hg : w.heap[g]? = some (.cells old T (0, 0))) (hn : old.size = n)
    (news : List Value) (hs : Src P 1 sT x n news w)
    (h : ∀ w', w'.heap[g]? = some (.cells news.toArray T (0, 0)) → Turn (fun k => k = g) w w' → w'.heap.size = w.heap.size → wpList P ops Q rest (a.put o.dst (goInt n)) w') : wpList P ops Q (o :: rest) a w := by
  refine wpList_plain hgd fun K hK => ?_
  have hl : news.length = n := by simpa using hs.newsLen
  have hst := run_storeCells_cells (P := P) g 0 news 0 w (fun j hj => by simp only [Nat.zero_add]; rw [cell_of_row w g j old T (0, 0) hg]; simp; omega) (fun j hj => by simpa using frozen_of_row w g j old T hg) hs.one
  simp only [Nat.add_zero] at hst
  have hrun : (Builtin.copy_ #[dT, sT] o.type #[.slice (some ⟨g, 0, none⟩) n cap, x]).run P w = .ok (goInt n) (w.setCells g 0 news) := by
    simp [Builtin.copy_, run_underlying hu, sizeOf, typeInfo, hi, hsz, hs.len, hs.cells, hst]
  unfold Oper.wp execOp
  simp only [ho, resolve, invoke, builtin, Sem.run_bind, Sem.run_pure, Result.andThen_ok, List.map_toArray, List.map_cons, List.map_nil, hd, hx, hrun]
  refine hK _ _ (h _ ?_ ⟨World.os_setCells _ _ _ _, setCells_tape _ _ _ _, World.output_setCells _ _ _ _, by rw [setCells_size]; exact Nat.le_refl _, fun k hk hn => World.heap_setCells_other w g _ _ hk hn⟩ (setCells_size _ _ _ _))
  rw [setCells_heap g news 0 w old T (0, 0) hg (by omega)]
  simp [List.drop_eq_nil_of_le, hn, hl]

theorem fill_list : ∀ (l : List Value) (k : Nat) (c : Array Value), k + l.length = c.size → (l.zipIdx k).foldl (fun cs (x : Value × Nat) => cs.setIfInBounds x.2 x.1) c = (c.toList.take k ++ l).toArray
  | [], k, c, h => by
    simp at h
    simp [h]
    rw [show c.size = c.toList.length from by simp, List.take_length]
  | v :: l, k, c, h => by
    simp at h
    rw [List.zipIdx_cons, List.foldl_cons, fill_list l (k + 1) _ (by simp; omega)]
    congr 1
    simp only [Array.toList_setIfInBounds]
    have hk : k < c.toList.length := by simp; omega
    rw [List.take_add_one, List.take_set_of_le (Nat.le_refl _), List.getElem?_set_self hk]
    simp
theorem fill_one (n : Nat) (cs : List Value) (Z : Array Value) (hl : cs.length = n) (hZ : Z.size = n) : Instr.fill (fun i => some (i * n, n)) Z [(0, .agg cs.toArray)] = some cs.toArray := by
  have hf := fill_list cs 0 Z (by omega)
  simp [Instr.fill, Value.cells, hl, hZ, hf]
/-- A row of one struct. -/
theorem wpList_buildSlice_one {P : Program} {ops : Array Oper} {rest : List Oper} {o : Oper} {a : Act} {w : World} {Q : Exit → Act → World → Prop} (hg : o.guard = none) (t e : TypeId) (x : Operand) (ho : o.op = .buildSlice t 1 #[(0, x)])
    (ie : TypeInfo) (z : Value) (n : Nat) (cs : List Value) (hu : P.underlying t = some (.slice e)) (hie : P.info? e = some ie) (hz : ie.zero = some z) (hs : ie.size = n) (hn : 0 < n) (hn2 : n ≤ 1000) (hx : a.eval x = .agg cs.toArray) (hl : cs.length = n)
    (h : wpList P ops Q rest (a.put o.dst (.slice (some ⟨w.heap.size, 0, none⟩) 1 1)) (w.alloc (.cells cs.toArray e))) : wpList P ops Q (o :: rest) a w := by
  refine wpList_buildSlice hg t e 1 #[(0, x)] ho cs.toArray ie z hu hie hz (by rw [hs]; omega) (by rw [hs]; omega) ?_ h
  rw [hs]
  have := fill_one n cs ((Array.range (1 * n)).map (z.cells[· % z.cells.size]!)) hl (by simp)
  simpa [hx] using this

/-- Two arrays of bytes, compared. -/
theorem eql_bytes {P : Program} (w : World) (t e : TypeId) (n : Nat) (ht : P.underlying t = some (.array n e)) (he : P.underlying e = some (.int .u8)) (hsz : ∀ w, (sizeOf e).run P w = .ok 1 w) (xs ys : List UInt8) (hx : xs.length = n) (hy : ys.length = n) :
    (binOp .eql t (hv xs) (hv ys)).run P w = .ok (.bool (xs == ys)) w := run_eql_bytes w t e n ht he hsz xs ys hx hy
theorem neq_bytes {P : Program} (w : World) (t e : TypeId) (n : Nat) (ht : P.underlying t = some (.array n e)) (he : P.underlying e = some (.int .u8)) (hsz : ∀ w, (sizeOf e).run P w = .ok 1 w) (xs ys : List UInt8) (hx : xs.length = n) (hy : ys.length = n) :
    (binOp .neq t (hv xs) (hv ys)).run P w = .ok (.bool (!(xs == ys))) w := by
  have h := run_equalIn_bytes w 9998 t e n ht he hsz xs ys hx hy
  show (binOp .neq t (.agg (u8s xs).toArray) (.agg (u8s ys).toArray)).run P w = _
  rw [run_neq_struct]
  have h' : (Op.equalIn 10000 t (.agg (u8s xs).toArray) (.agg (u8s ys).toArray)).run P w = .ok (xs == ys) w := h
  rw [h']
  rfl

/-- A load of several cells among reads that draw their order. -/
theorem wpStill_load_mid {P : Program} {ops : Array Oper} {rest : List Oper} {op : Oper} {a : Act} {w : World} {Q : Act → Prop} (hgd : op.guard = none) (ty : TypeId) (x : Operand) (ho : op.op = .load ty x)
    (b o : Nat) (hx : a.eval x = .pointer (some ⟨b, o, none⟩)) (cs : List Value) (d : TypeDesc) (hc : w.rangeAt b o cs)
    (hu : P.underlying ty = some d) (hd : d.isRow = true) (hi : (P.info? ty).map (·.size) = some cs.length)
    (h : wpStill P ops w Q rest (a.put op.dst (.agg cs.toArray))) : wpStill P ops w Q (op :: rest) a := by
  refine wpStill_step (fun K hK => ?_)
  simp only [Region.wanted, hgd, if_true]
  unfold Oper.still execOp
  simp only [ho, hx, Instr.loadAt, Instr.sureAddr, Sem.run_bind, Sem.run_pure, Result.andThen_ok, run_loadVar_mid w b o ty cs d hc hu hd hi]
  exact ⟨rfl, hK _ h⟩

/-- Results of which the first lies in memory. -/
theorem results_cell2 {P : Program} {fn : Func} {p u : Tmp} {ty : TypeId} (h : fn.results = #[.cell p ty, .tmp u]) (tmps : Array Value) (w : World) (g : Nat) (t : TypeId) (cs : Array Value) (fr : Nat × Nat) (d : TypeDesc)
    (hp : tmps.getD p undef = .pointer (some ⟨g, 0, none⟩)) (hg : w.heap[g]? = some (.cells cs t fr))
    (hu : P.underlying ty = some d) (hd : (match d with | .struct _ | .array _ _ => true | _ => false) = true) (hi : (P.info? ty).map (·.size) = some cs.size) :
    (results fn tmps).run P w = .ok (.tuple #[.agg cs, tmps.getD u undef]) w := by
  rw [results_cell_tmp h, hp]
  simp only [asAddr, Sem.run_pure, Result.andThen_ok, run_loadVar_row w g t ty cs fr d hg hu hd hi]

/-- A slice as an array. -/
theorem arrayAt_ok {P : Program} (w : World) (T e : TypeId) (n cap : Nat) (a : Addr) (hu : P.underlying T = some (.array n e)) :
    (Instr.arrayAt T (.slice (some a) n cap)).run P w = .ok (.pointer (some a)) w := by
  simp [Instr.arrayAt, run_underlying hu]

/-- The bytes of a number, so many, the highest first. -/
def beB (x : Nat) : Nat → List UInt8
  | 0 => []
  | n + 1 => UInt8.ofNat (x >>> (8 * n)) :: beB x n
theorem beB_length (x n : Nat) : (beB x n).length = n := by
  induction n with
  | zero => rfl
  | succ n ih => simp [beB, ih]
/-- What a walk's step does to operations and slots. -/
theorem AP : (∀ {α : Type} (xs : List α) (i : Nat) (h : i < xs.toArray.size), xs.toArray[i]'h = xs[i]'(by simpa using h)) ∧ (∀ {α : Type} (a : α) (l : List α) (i : Nat) (h : i + 1 < (a :: l).length), (a :: l)[i + 1]'h = l[i]'(Nat.lt_of_succ_lt_succ h)) ∧ (∀ {α : Type} (a : α) (l : List α) (h : 0 < (a :: l).length), (a :: l)[0]'h = a) ∧
    (∀ (a : Act) (d : Tmp) (v : Value), a.put (some d) v = { a with tmps := a.tmps.setIfInBounds d v }) ∧ (∀ (a : Act) (v : Value), a.put none v = a) ∧ (∀ {α : Type} (xs : List α) (i : Nat) (v : α), xs.toArray.setIfInBounds i v = (xs.set i v).toArray) ∧ (∀ {α : Type} (a b : α) (l : List α), (a :: l).set 0 b = b :: l) ∧ (∀ {α : Type} (a b : α) (l : List α) (i : Nat), (a :: l).set (i + 1) b = a :: l.set i b) :=
  ⟨fun _ _ _ => rfl, fun _ _ _ _ => rfl, fun _ _ _ => rfl, fun _ _ _ => rfl, fun _ _ => rfl, fun _ _ _ => List.setIfInBounds_toArray _ _ _, fun _ _ _ => rfl, fun _ _ _ _ => rfl⟩
theorem range_of_row {w : World} {g : Nat} {l : List Value} {T : TypeId} {fr : Nat × Nat} (h : w.heap[g]? = some (.cells l.toArray T fr)) : w.rangeAt g 0 l := by
  intro j v hj
  rw [cell_of_row w g (0 + j) _ _ _ h, List.getElem?_toArray, Nat.zero_add, hj]

section
variable {P : Program} {ops : Array Oper} {rest : List Oper} {o : Oper} {a : Act} {w : World} {Q : Exit → Act → World → Prop}
/-- A new variable of several cells. -/
theorem wpList_allocZ (hg : o.guard = none) (t : TypeId) (ho : o.op = .alloc t) (cs : List Value) (hz : (P.info? t).bind (·.zero) = some (.agg cs.toArray))
    (h : ∀ g w', g = w.heap.size → w'.heap[g]? = some (.cells cs.toArray t (0, 0)) → Pure w w' → w'.heap.size = g + 1 → wpList P ops Q rest (a.put o.dst (.pointer (some ⟨g, 0, none⟩))) w') : wpList P ops Q (o :: rest) a w := by
  refine wpList_plain hg fun K hK => ?_
  obtain ⟨i, hi, hzi⟩ := Option.bind_eq_some_iff.1 hz
  unfold Oper.wp execOp
  simp [ho, Instr.alloc, zeroValue, typeInfo, hi, hzi, newVar, newRow, newObj, Result.andThen, Value.cells]
  exact hK _ _ (h _ _ rfl (heap_alloc_new _ _) ((Turn.refl _ _).alloc _) (by simp))
theorem wpList_boxV (hg : o.guard = none) (t : TypeId) (x : Operand) (ho : o.op = .box t x) (cs : List Value) (hx : a.eval x = .agg cs.toArray)
    (h : ∀ g w', g = w.heap.size → w'.heap[g]? = some (.cells cs.toArray t (0, 0)) → Pure w w' → w'.heap.size = g + 1 → wpList P ops Q rest (a.put o.dst (.pointer (some ⟨g, 0, none⟩))) w') : wpList P ops Q (o :: rest) a w := by
  refine wpList_plain hg fun K hK => ?_
  unfold Oper.wp execOp
  simp [ho, hx, Instr.box, newVar, newRow, newObj, Result.andThen, Value.cells]
  exact hK _ _ (h _ _ rfl (heap_alloc_new _ _) ((Turn.refl _ _).alloc _) (by simp))
end
end Go.Proofs.Ytigkmdjdnkbdkaa
