/- Walks of package wire. Walks of package wire: readers. Writers and readers that a call has made itself. -/
import Derived.Test.YtigkmdjdnkbdkaaBase
import Derived.Test.YtigkmdjdnkbdkaaRows
namespace Go.Proofs.Ytigkmdjdnkbdkaa
open Go.RowKit

def sizedB (s : Int) : Bool := s == 1 || s == 2 || s == 4

set_option maxRecDepth 100000 in
set_option maxHeartbeats 400000 in
theorem sized_any (s : Int) (w : World) :
    Calls Try.prog 49 #[.int .i64 s] w fun e w' => e = .returned (.bool (sizedB s)) ∧ w = w' := by
  by_cases h1 : s = 1
  · subst h1
    go_enter Try.func49, Try.ntmps49
    go_wp2
    go_ret
    exact ⟨rfl, rfl⟩
  by_cases h2 : s = 2
  · subst h2
    go_enter Try.func49, Try.ntmps49
    go_wp2
    go_ret
    exact ⟨rfl, rfl⟩
  have b1 : (s == 1) = false := by simpa using h1
  have b2 : (s == 2) = false := by simpa using h2
  go_enter Try.func49, Try.ntmps49
  go_wp2
  go_ret
  exact ⟨by simp [sizedB, b1, b2], rfl⟩

theorem sized_cases {s : Int} (h : sizedB s = true) : s = 1 ∨ s = 2 ∨ s = 4 := by
  simp [sizedB] at h; omega

theorem sized_nat {s : Int} (h : sizedB s = true) : ∃ m : Nat, s = m ∧ (m = 1 ∨ m = 2 ∨ m = 4) := by
  rcases sized_cases h with rfl | rfl | rfl
  · exact ⟨1, rfl, .inl rfl⟩
  · exact ⟨2, rfl, .inr (.inl rfl)⟩
  · exact ⟨4, rfl, .inr (.inr rfl)⟩

/-- Does a number fit into so many bytes? -/
def fitsB (x s : Int) : Bool := sizedB s && decide (0 ≤ x) && decide (x < 256 ^ s.toNat)

set_option maxRecDepth 100000 in
set_option maxHeartbeats 400000 in
theorem bytes_unsized (x s : Int) (w : World) (h : sizedB s = false) :
    Calls Try.prog 59 #[.int .i64 x, .int .i64 s] w fun e w' => e = .returned (.tuple #[.string ⟨#[]⟩, .bool false]) ∧ w = w' := by
  have H := Lib.hid h; clear h
  go_enter Try.func59, Try.ntmps59
  go_wp2_with (go_at_call 49; refine (sized_any _ _).mono ?_; rintro e w' ⟨rfl, rfl⟩; rw [H.out])
  go_ret2
  exact ⟨rfl, rfl⟩

set_option maxRecDepth 100000 in
set_option maxHeartbeats 400000 in
theorem bytes_neg (x s : Int) (w : World) (h : sizedB s = true) (hx : x < 0) :
    Calls Try.prog 59 #[.int .i64 x, .int .i64 s] w fun e w' => e = .returned (.tuple #[.string ⟨#[]⟩, .bool false]) ∧ w = w' := by
  have H := Lib.hid h; clear h
  go_enter Try.func59, Try.ntmps59
  go_wp2_with (go_at_call 49; refine (sized_any _ _).mono ?_; rintro e w' ⟨rfl, rfl⟩; rw [H.out])
  go_ret2
  exact ⟨rfl, rfl⟩

set_option maxRecDepth 100000 in
set_option maxHeartbeats 400000 in
theorem bytes_big (x : Int) (n : Nat) (w : World) (hn : n = 1 ∨ n = 2 ∨ n = 4) (h0 : 0 ≤ x) (hx : (256 : Int) ^ n ≤ x) :
    Calls Try.prog 59 #[.int .i64 x, .int .i64 n] w fun e w' => e = .returned (.tuple #[.string ⟨#[]⟩, .bool false]) ∧ w = w' := by
  rcases hn with rfl | rfl | rfl
  · have hb : (x / 256 != 0) = true := by simp; omega
    clear hx
    go_enter Try.func59, Try.ntmps59
    go_wp2_with (go_at_call 49; refine (sized_any _ _).mono ?_; rintro e w' ⟨rfl, rfl⟩)
    go_ret2
    exact ⟨rfl, rfl⟩
  · have hb : (x / 65536 != 0) = true := by simp; omega
    clear hx
    go_enter Try.func59, Try.ntmps59
    go_wp2_with (go_at_call 49; refine (sized_any _ _).mono ?_; rintro e w' ⟨rfl, rfl⟩)
    go_ret2
    exact ⟨rfl, rfl⟩
  · have hb : (x / 4294967296 != 0) = true := by simp; omega
    clear hx
    go_enter Try.func59, Try.ntmps59
    go_wp2_with (go_at_call 49; refine (sized_any _ _).mono ?_; rintro e w' ⟨rfl, rfl⟩)
    go_ret2
    exact ⟨rfl, rfl⟩

theorem Try.infoU8 : (Try.prog.info? 5).map (fun i => (i.zero, i.size, i.bytes)) = some (some (.int .u8 0), 1, 1) := by kernel_rfl

theorem made_u8 (n : Nat) : madeCells #[Value.int .u8 0] n = (u8s (List.replicate n 0)).toArray := by
  apply Array.toList_inj.1
  simp only [madeCells, u8s, u8, Array.toList_map, List.map_replicate]
  apply List.ext_getElem
  · simp
  · intro i h1 h2
    simp [Nat.mod_one]

theorem make_u8 (w : World) (n : Nat) (hn : n ≤ 1099511627776) :
    (Instr.makeSlice 48 (.int .i64 n) (.int .i64 n)).run Try.prog w = .ok (.slice (some ⟨w.heap.size, 0, none⟩) n n) (w.alloc (.cells (u8s (List.replicate n 0)).toArray 5)) := by
  obtain ⟨i, hi, h1, h2, h3⟩ := info_parts Try.infoU8
  have := run_make (P := Try.prog) w 48 5 i (.int .u8 0) Try.underlying48 hi h1 .i64 .i64 n n (by omega) (by omega) (by rw [h3]; omega) (by omega)
  rw [this, h2]
  simp [Value.cells, made_u8]

/-- The bytes of a number that are written after k rounds, the others still 0. -/
def beCur (x n k : Nat) : List UInt8 := (beB x n).take k ++ List.replicate (n - k) 0
theorem beCur_zero (x n : Nat) : beCur x n 0 = List.replicate n 0 := by simp [beCur]
theorem beCur_full (x n : Nat) : beCur x n n = beB x n := by simp [beCur, List.take_of_length_le, beB_length]
theorem beCur_length (x n k : Nat) (h : k ≤ n) : (beCur x n k).length = n := by simp [beCur, beB_length]; omega
theorem beB_get (x n k : Nat) (h : k < n) : (beB x n)[k]? = some (UInt8.ofNat (x >>> (8 * (n - 1 - k)))) := by
  induction n generalizing k with
  | zero => omega
  | succ n ih =>
    cases k with
    | zero => simp [beB]
    | succ k =>
      rw [beB, List.getElem?_cons_succ, ih k (by omega)]
      rw [show n - 1 - k = n + 1 - 1 - (k + 1) from by omega]
theorem u8_shr (x m : Nat) : Value.int .u8 ((x : Int) / 2 ^ m % 256) = u8 (UInt8.ofNat (x >>> m)) := by
  have h : ((x : Int) / 2 ^ m % 256) = (((x >>> m) % 256 : Nat) : Int) := by
    rw [Nat.shiftRight_eq_div_pow, Int.natCast_emod, Int.natCast_ediv, Int.natCast_pow]; rfl
  rw [h, u8, UInt8.toNat_ofNat']
theorem beCur_set (x n k : Nat) (h : k < n) : ((u8s (beCur x n k)).set k (Value.int .u8 ((x : Int) / 2 ^ (8 * (n - 1 - k)) % 256))).toArray = (u8s (beCur x n (k + 1))).toArray := by
  rw [u8_shr]
  congr 1
  have hl : ((beB x n).take k).length = k := by simp [beB_length]; omega
  have e : (beB x n).take (k + 1) = (beB x n).take k ++ [UInt8.ofNat (x >>> (8 * (n - 1 - k)))] := by
    rw [List.take_add_one, beB_get x n k h]; rfl
  have r : List.replicate (n - k) (0 : UInt8) = 0 :: List.replicate (n - (k + 1)) 0 := by
    rw [show n - k = (n - (k + 1)) + 1 from by omega, List.replicate_succ]
  simp only [u8s, beCur, e, r, List.map_append, List.map_cons, List.append_assoc, List.cons_append, List.nil_append]
  rw [List.set_append_right _ _ (by rw [List.length_map, hl]; exact Nat.le_refl _), List.length_map, hl]
  simp

set_option maxRecDepth 100000 in
set_option maxHeartbeats 400000 in
theorem bytes_ok (x n : Nat) (w : World) (hn : n = 1 ∨ n = 2 ∨ n = 4) (hx : x < 256 ^ n) :
    Calls Try.prog 59 #[.int .i64 x, .int .i64 n] w fun e w' => e = .returned (.tuple #[.string (bstr (beB x n)), .bool true]) ∧ Pure w w' := by
  have hs : sizedB n = true := by rcases hn with rfl | rfl | rfl <;> rfl
  have hq : ((x : Int) / 2 ^ (8 * n) != 0) = false := by rcases hn with rfl | rfl | rfl <;> simp <;> omega
  have h0 : 0 ≤ (x : Int) := by omega
  have HS := Lib.hid hs; clear hs
  have HX := Lib.hid hx; clear hx
  have hmk := make_u8 w n (by omega)
  go_enter Try.func59, Try.ntmps59
  go_wp2_with (go_at_call 49; refine (sized_any _ _).mono ?_; rintro e w' ⟨rfl, rfl⟩; rw [HS.out])
  clear hmk hq
  have hle : n ≤ 4 := by omega
  have HN := Lib.hid hn; clear hn
  go_loopw [7, 26] (fun _ i wr => ∃ k : Nat, k ≤ n ∧ i = .int .i64 k ∧ wr = w.alloc (.cells (u8s (beCur x n k)).toArray 5)) (fun _ i _ => n - (intOf i).toNat)
  case atStart => exact ⟨0, by omega, rfl, by rw [beCur_zero]⟩
  case round =>
    obtain ⟨k, hk, rfl, rfl⟩ := hrel
    by_cases hlt : k < n
    · have hc : (w.alloc (.cells (u8s (beCur x n k)).toArray 5)).cell? ⟨w.heap.size, k, none⟩ = some (u8 ((beCur x n k).getD k 0)) := by
        rw [World.cell?_alloc_new]; simp [u8s, List.getD, beCur_length x n k hk, hlt]
      go_wp2
      exact ⟨⟨k + 1, by omega, by go_num, by rw [beCur_set x n k hlt]⟩, by simp [intOf]; omega⟩
    · obtain rfl : k = n := by omega
      rw [beCur_full]
      have hcv := fun d hd => run_convert_bytes_arg (P := Try.prog) (w.alloc (.cells (u8s (beB x k)).toArray 5)) 48 5 Try.underlying48 Try.underlying5 w.heap.size 0 k k ((beB x k).map fun b => (b.toNat : Int)) (by simp [beB_length])
        (fun i hi => by rw [Nat.zero_add, World.cell?_alloc_new]; simp [u8s, u8, List.getD, beB_length, hi]) d hd
      have hcv := hcv 9 Try.underlying9
      have e : strOfNums ((beB x k).map fun b => (b.toNat : Int)) = bstr (beB x k) := strOf_bytes _
      rw [e] at hcv
      go_wp2
      go_ret2
      exact ⟨rfl, (Turn.refl _ _).alloc _⟩

/-- A writer at g: its bytes are bs; they lie in v's own block. -/
structure IsWr (T : TypeId) (w : World) (g : Nat) (v : Value) (bs : List UInt8) : Prop where
  cell : w.heap[g]? = some (.cells #[v] T (0, 0))
  own : w.ownsRow 0 5 1 v bs.length (u8s bs)
  ne : v.ownBlock ≠ some g
  len : bs.length ≤ 65536
theorem IsWr.at {T : TypeId} {w : World} {g : Nat} {v : Value} {bs : List UInt8} (h : IsWr T w g v bs) : w.cell? ⟨g, 0, none⟩ = some v := by simp [World.cell?, h.cell]
theorem IsWr.free {T : TypeId} {w : World} {g : Nat} {v : Value} {bs : List UInt8} (h : IsWr T w g v bs) : w.frozen? ⟨g, 0, none⟩ = false := by simp [World.frozen?, h.cell]
theorem IsWr.lt {T : TypeId} {w : World} {g : Nat} {v : Value} {bs : List UInt8} (h : IsWr T w g v bs) : g < w.heap.size := (Array.getElem?_eq_some_iff.1 h.cell).1
/-- The blocks of a writer. -/
def WrB (g : Nat) (v : Value) : Nat → Prop := fun k => k = g ∨ v.ownBlock = some k
theorem IsWr.turn {T : TypeId} {w w' : World} {g : Nat} {v : Value} {bs : List UInt8} {S : Nat → Prop} (h : IsWr T w g v bs) (ht : Turn S w w') (hn : ∀ k, WrB g v k → ¬ S k) : IsWr T w' g v bs :=
  ⟨ht.obj h.cell (hn g (.inl rfl)), ht.own h.own fun k hk => hn k (.inr hk), h.ne, h.len⟩
theorem IsWr.blk {T : TypeId} {w : World} {g : Nat} {v : Value} {bs : List UInt8} (h : IsWr T w g v bs) : ∀ k, WrB g v k → k < w.heap.size := by
  rintro k (rfl | hk)
  · exact h.lt
  · exact (h.own.lt k hk).2


set_option maxRecDepth 100000 in
set_option maxHeartbeats 400000 in
theorem WNew_any (w : World) :
    Calls Try.prog 15 #[] w fun e w' => e = .returned (.pointer (some ⟨w.heap.size, 0, none⟩)) ∧ IsWr 87 w' w.heap.size (.slice none 0 0) [] ∧ Pure w w' := by
  go_enter Try.func15, Try.ntmps15
  go_wp2
  go_ret
  exact ⟨rfl, ⟨heap_alloc_new w _, World.ownsRow_nil _ _ _ _, by simp [Value.ownBlock], by simp⟩, (Turn.refl _ _).alloc _⟩

theorem cells_at {w : World} {gp : Nat} {ps : List (List UInt8)} {T : TypeId} {fr : Nat × Nat} (hp : w.heap[gp]? = some (.cells (ps.map fun p => Value.string (bstr p)).toArray T fr)) (k : Nat) (hk : k < ps.length) :
    w.cell? ⟨gp, k, none⟩ = some (.string (bstr (ps.getD k []))) := by
  rw [cell_of_row w gp k _ _ _ hp]; simp [List.getD, hk]

set_option maxRecDepth 100000 in
set_option maxHeartbeats 400000 in
theorem put_long (w : World) (g gp : Nat) (v : Value) (bs : List UInt8) (ps : List (List UInt8)) (h : IsWr 87 w g v bs) (hp : w.heap[gp]? = some (.cells (ps.map fun p => Value.string (bstr p)).toArray 9 (0, 0)))
    (hl : ∀ p ∈ ps, p.length ≤ 4611686018427387904) (hbig : 65536 < bs.length + (catB ps).length) (hps : ps.length ≤ 1000) :
    Calls Try.prog 60 #[.pointer (some ⟨g, 0, none⟩), .slice (some ⟨gp, 0, none⟩) ps.length ps.length] w fun e w' => e = .returned (.int .i64 302) ∧ w = w' := by
  have h1 := h.at
  have hbl := h.len
  obtain ⟨ao, c, rfl, _⟩ := ownsRow_shape h.own
  go_enter Try.func60, Try.ntmps60
  go_wp2
  go_loop [5, 17] (fun s i => ∃ k : Nat, k ≤ ps.length ∧ i = .int .i64 k ∧ bs.length + (catB (ps.take k)).length ≤ 65536 ∧ s = .int .i64 ((bs.length + (catB (ps.take k)).length : Nat) : Int)) (fun _ i => ps.length - (intOf i).toNat)
  case atStart => exact ⟨0, by omega, rfl, by simpa [catB] using hbl, by simp [catB]⟩
  case round =>
    obtain ⟨k, hk, rfl, hs, rfl⟩ := hrel
    by_cases hlt : k < ps.length
    · have hc := cells_at hp k hlt
      have hz := bstr_size (ps.getD k [])
      have hpl := hl (ps.getD k []) (by simp [List.getD, hlt])
      have hn := congrArg List.length (catB_take_succ ps k hlt)
      rw [List.length_append] at hn
      have HN := Lib.hid hn; clear hn
      generalize ps.getD k [] = q at hc hz hpl HN
      generalize hx : (catB (ps.take k)).length = x at hs HN
      have HX := Lib.hid hx; clear hx
      by_cases ht : bs.length + x + q.length ≤ 65536
      · go_wp2
        exact ⟨⟨k + 1, by omega, by go_num, by rw [HN.out]; omega, by rw [HN.out]; go_num⟩, by simp [intOf]; omega⟩
      · go_wp2
        go_ret
        exact ⟨rfl, rfl⟩
    · obtain rfl : k = ps.length := by omega
      rw [catB_take_all] at hs
      omega

/-- What a writer's call that wrote leaves: the writer with more bytes, all else as it was. -/
structure Wrote (T : TypeId) (w w' : World) (g : Nat) (v : Value) (bs : List UInt8) : Prop where
  ex : ∃ v', IsWr T w' g v' bs ∧ (v'.ownBlock = v.ownBlock ∨ ∀ k, v'.ownBlock = some k → w.heap.size ≤ k)
  turn : Turn (WrB g v) w w'

theorem IsWr.grow {T : TypeId} {wr w2 : World} {g n : Nat} {v' sl : Value} {bs q : List UInt8} (h : IsWr T wr g v' bs) (ht : Turn (fun k => v'.ownBlock = some k) wr w2)
    (ho : w2.ownsRow 0 5 1 sl n (u8s bs ++ u8s q)) (hn : n = (bs ++ q).length) (hb : Hid (sl.ownBlock = v'.ownBlock ∨ sl.ownBlock = some wr.heap.size)) (hl : (bs ++ q).length ≤ 65536) :
    IsWr T (w2.setCell ⟨g, 0, none⟩ sl) g sl (bs ++ q) ∧ Turn (WrB g v') wr (w2.setCell ⟨g, 0, none⟩ sl) ∧ (sl.ownBlock = v'.ownBlock ∨ ∀ k, sl.ownBlock = some k → wr.heap.size ≤ k) := by
  have hg2 : w2.heap[g]? = some (.cells #[v'] T (0, 0)) := ht.obj h.cell h.ne
  have hne : sl.ownBlock ≠ some g := by
    rcases hb.out with e | e
    · rw [e]; exact h.ne
    · rw [e]; have := h.lt; intro e'; simp at e'; omega
  refine ⟨⟨?_, ?_, hne, hl⟩, (ht.mono fun k _ e => .inr e).setCell (fun _ => .inl rfl) _, ?_⟩
  · simp [World.setCell, Array.getElem?_modify, hg2]
  · subst hn
    rw [u8s_app]
    exact (Turn.refl (fun k => k = g) w2 |>.setCell (p := ⟨g, 0, none⟩) (fun _ => rfl) sl).own ho fun k hk e => hne (by rw [hk, e])
  · rcases hb.out with e | e
    · exact .inl e
    · exact .inr fun k hk => by rw [e] at hk; simp at hk; omega

theorem Wrote.step {T : TypeId} {w wr w3 : World} {g : Nat} {v v' v3 : Value} {bs : List UInt8} (hT : Turn (WrB g v) w wr) (hob : v'.ownBlock = v.ownBlock ∨ ∀ k, v'.ownBlock = some k → w.heap.size ≤ k)
    (h : IsWr T w3 g v3 bs) (ht : Turn (WrB g v') wr w3) (hb : v3.ownBlock = v'.ownBlock ∨ ∀ k, v3.ownBlock = some k → wr.heap.size ≤ k) : Wrote T w w3 g v bs := by
  have hsz := hT.size
  refine ⟨⟨v3, h, ?_⟩, hT.trans ht ?_⟩
  · rcases hb with e | e
    · rcases hob with f | f
      · exact .inl (e.trans f)
      · exact .inr fun k hk => f k (by rw [← e]; exact hk)
    · exact .inr fun k hk => Nat.le_trans hsz (e k hk)
  · rintro i hi (e | e)
    · exact .inl e
    · rcases hob with f | f
      · exact .inr (by rw [← f]; exact e)
      · have := f i e; omega

set_option maxRecDepth 100000 in
set_option maxHeartbeats 1000000 in
theorem put_ok (w : World) (g gp : Nat) (v : Value) (bs : List UInt8) (ps : List (List UInt8)) (h : IsWr 87 w g v bs) (hp : w.heap[gp]? = some (.cells (ps.map fun p => Value.string (bstr p)).toArray 9 (0, 0)))
    (hgp : ¬ WrB g v gp) (hbig : bs.length + (catB ps).length ≤ 65536) (hps : ps.length ≤ 1000) :
    Calls Try.prog 60 #[.pointer (some ⟨g, 0, none⟩), .slice (some ⟨gp, 0, none⟩) ps.length ps.length] w fun e w' => e = .returned (.int .i64 0) ∧ Wrote 87 w w' g v (bs ++ catB ps) := by
  have h1 := h.at
  have hbl := h.len
  obtain ⟨ao, c, hv, _⟩ := ownsRow_shape h.own
  have h1' := h1
  rw [hv] at h1'
  clear h1
  have HV := Lib.hid hv; clear hv
  go_enter Try.func60, Try.ntmps60
  go_wp2
  go_loop [5, 17] (fun s i => ∃ k : Nat, k ≤ ps.length ∧ i = .int .i64 k ∧ s = .int .i64 ((bs.length + (catB (ps.take k)).length : Nat) : Int)) (fun _ i => ps.length - (intOf i).toNat)
  case atStart => exact ⟨0, by omega, rfl, by simp [catB]⟩
  case round =>
    obtain ⟨k, hk, rfl, rfl⟩ := hrel
    by_cases hlt : k < ps.length
    · have hc := cells_at hp k hlt
      have hz := bstr_size (ps.getD k [])
      have hn := congrArg List.length (catB_take_succ ps k hlt)
      have hle := catB_take_le ps (k + 1)
      rw [hn] at hle
      rw [List.length_append] at hn hle
      have HN := Lib.hid hn; clear hn
      generalize ps.getD k [] = q at hc hz hle HN
      generalize hx : (catB (ps.take k)).length = x at hle HN
      have HX := Lib.hid hx; clear hx
      go_wp2
      exact ⟨⟨k + 1, by omega, by go_num, by rw [HN.out]; go_num⟩, by simp [intOf]; omega⟩
    · obtain rfl : k = ps.length := by omega
      rw [catB_take_all]
      clear h1'
      obtain ⟨i5, hi, hz, hsz, hby⟩ := info_parts Try.infoU8
      go_wp2
      go_loopw [30] (fun i wr => ∃ k : Nat, k ≤ ps.length ∧ i = .int .i64 k ∧ Wrote 87 w wr g v (bs ++ catB (ps.take k)) ∧ wr.heap[gp]? = some (.cells (ps.map fun p => Value.string (bstr p)).toArray 9 (0, 0))) (fun i _ => ps.length - (intOf i).toNat)
      case atStart => exact ⟨0, by omega, rfl, ⟨⟨v, by simpa [catB] using h, .inl rfl⟩, Turn.refl _ _⟩, hp⟩
      case round =>
        obtain ⟨k, hk, rfl, hW, hpr⟩ := hrel
        obtain ⟨⟨v', hw', hob⟩, hT⟩ := hW
        by_cases hlt : k < ps.length
        · have hc := cells_at hpr k hlt
          have hcell := hw'.at
          have hfree := hw'.free
          have hn := catB_take_succ ps k hlt
          have hle := catB_take_le ps (k + 1)
          have HN := Lib.hid hn; clear hn
          rw [HN.out, List.length_append] at hle
          generalize ps.getD k [] = q at hc hle HN
          have hsrc := Src.ofString (P := Try.prog) wr (tx := 9) Try.underlying9 (bstr q)
          rw [bstr_size, byteCells_u8s, bstr_data] at hsrc
          have HS := Lib.hid hsrc; clear hsrc
          have HW := Lib.hid hw'; clear hw'
          have HB := Lib.hid hob; clear hob
          have HP := Lib.hid hpr; clear hpr
          go_wp2_with (at_builtin; refine wpList_append_turn _ rfl _ _ 48 9 5 rfl i5 _ 1 1 Try.underlying48 hi hz hsz hby rfl v' _ _ rfl HW.out.own _ rfl q.length _ HS.out ?_ ?_ ?_)
          case refine_1 => rw [List.length_append]; omega
          case refine_2 => rw [List.length_append]; omega
          intro ao2 c2 w2 hown2 ht2 hb2
          have hx1 := ht2.cell hcell (fun e => HW.out.ne e)
          have hx2 : w2.frozen? ⟨g, 0, none⟩ = false := by rw [World.frozen?_of_block (ht2.block g HW.out.lt (fun e => HW.out.ne e))]; exact hfree
          have HO := Lib.hid hown2; clear hown2
          clear hcell hfree hc
          obtain ⟨r1, r2, r3⟩ := HW.out.grow ht2 HO.out (by simp [Nat.add_assoc]) hb2 (by simp; omega)
          have HR := Lib.hid r1; clear r1
          have HR3 := Lib.hid r3; clear r3
          go_wp2
          refine ⟨⟨k + 1, by omega, by go_num, ?_, ?_⟩, by simp [intOf]; omega⟩
          · rw [HN.out, ← List.append_assoc]
            exact Wrote.step hT HB.out HR.out r2 HR3.out
          · exact r2.obj HP.out (fun e => hgp (by
              rcases e with e | e
              · exact .inl e
              · rcases HB.out with f | f
                · exact .inr (by rw [← f]; exact e)
                · have := f gp e; have := (Array.getElem?_eq_some_iff.1 hp).1; omega))
        · obtain rfl : k = ps.length := by omega
          rw [catB_take_all] at hw'
          go_wp2
          go_ret
          exact ⟨rfl, ⟨v', hw', hob⟩, hT⟩

theorem Wrote.same {T : TypeId} {w w' : World} {g : Nat} {v : Value} {bs : List UInt8} (h : IsWr T w g v bs) (ht : Pure w w') : Wrote T w w' g v bs :=
  ⟨⟨v, h.turn ht (fun _ _ e => e), .inl rfl⟩, ht.mono fun _ _ e => e.elim⟩
/-- What was written behind a pure step. -/
theorem Wrote.after {T : TypeId} {w w1 w' : World} {g : Nat} {v : Value} {bs : List UInt8} (ht : Pure w w1) (h : Wrote T w1 w' g v bs) : Wrote T w w' g v bs := by
  obtain ⟨⟨v', h1, h2⟩, h3⟩ := h
  refine ⟨⟨v', h1, ?_⟩, (ht.mono (S' := WrB g v) fun _ _ e => e.elim).trans h3 fun _ _ e => e⟩
  rcases h2 with e | e
  · exact .inl e
  · exact .inr fun k hk => Nat.le_trans ht.size (e k hk)

/-- Writing bytes behind others. -/
def wrPut (bs q : List UInt8) : Int × List UInt8 := if bs.length + q.length ≤ 65536 then (0, bs ++ q) else (302, bs)
def wrNum (bs : List UInt8) (x s : Int) : Int × List UInt8 := if fitsB x s then wrPut bs (beB x.toNat s.toNat) else (301, bs)
def wrText (bs t : List UInt8) (s : Int) : Int × List UInt8 := if fitsB t.length s then wrPut bs (beB t.length s.toNat ++ t) else (301, bs)

theorem put_any (w : World) (g gp : Nat) (v : Value) (bs : List UInt8) (ps : List (List UInt8)) (h : IsWr 87 w g v bs) (hp : w.heap[gp]? = some (.cells (ps.map fun p => Value.string (bstr p)).toArray 9 (0, 0)))
    (hl : ∀ p ∈ ps, p.length ≤ 4611686018427387904) (hgp : ¬ WrB g v gp) (hps : ps.length ≤ 1000) :
    Calls Try.prog 60 #[.pointer (some ⟨g, 0, none⟩), .slice (some ⟨gp, 0, none⟩) ps.length ps.length] w fun e w' =>
      e = .returned (.int .i64 (wrPut bs (catB ps)).1) ∧ Wrote 87 w w' g v (wrPut bs (catB ps)).2 := by
  by_cases hb : bs.length + (catB ps).length ≤ 65536
  · rw [wrPut, if_pos hb]
    exact put_ok w g gp v bs ps h hp hgp hb hps
  · rw [wrPut, if_neg hb]
    refine (put_long w g gp v bs ps h hp hl (by omega) hps).mono ?_
    rintro e w' ⟨rfl, rfl⟩
    exact ⟨rfl, Wrote.same h (Turn.refl _ _)⟩

theorem fitsB_nat {x s : Int} (h : fitsB x s = true) : ∃ a n : Nat, x = a ∧ s = n ∧ (n = 1 ∨ n = 2 ∨ n = 4) ∧ a < 256 ^ n := by
  simp only [fitsB, Bool.and_eq_true, decide_eq_true_eq] at h
  obtain ⟨⟨h1, h2⟩, h3⟩ := h
  obtain ⟨a, rfl⟩ := Int.eq_ofNat_of_zero_le h2
  rcases sized_cases h1 with rfl | rfl | rfl
  · exact ⟨a, 1, rfl, rfl, .inl rfl, by simp at h3 ⊢; omega⟩
  · exact ⟨a, 2, rfl, rfl, .inr (.inl rfl), by simp at h3 ⊢; omega⟩
  · exact ⟨a, 4, rfl, rfl, .inr (.inr rfl), by simp at h3 ⊢; omega⟩

theorem bytes_any (x s : Int) (w : World) :
    Calls Try.prog 59 #[.int .i64 x, .int .i64 s] w fun e w' =>
      e = .returned (.tuple #[.string (bstr (if fitsB x s then beB x.toNat s.toNat else [])), .bool (fitsB x s)]) ∧ Pure w w' := by
  by_cases h : fitsB x s = true
  · obtain ⟨a, n, rfl, rfl, hn, ha⟩ := fitsB_nat h
    rw [h]
    exact bytes_ok a n w hn ha
  · have h' : fitsB x s = false := by simpa using h
    rw [h']
    have fin : ∀ {e : Ending} {w' : World}, (e = .returned (.tuple #[.string ⟨#[]⟩, .bool false]) ∧ w = w') → e = .returned (.tuple #[.string (bstr (if false = true then beB x.toNat s.toNat else [])), .bool false]) ∧ Pure w w' := by
      rintro e w' ⟨rfl, rfl⟩
      exact ⟨rfl, Turn.refl _ _⟩
    by_cases hs : sizedB s = true
    · by_cases hx : x < 0
      · exact (bytes_neg x s w hs hx).mono fun _ _ => fin
      · have hx0 : 0 ≤ x := by omega
        have hb : (256 : Int) ^ s.toNat ≤ x := by
          simp only [fitsB, hs, hx0, Bool.true_and, decide_true, decide_eq_false_iff_not] at h'
          omega
        rcases sized_cases hs with rfl | rfl | rfl
        · exact (bytes_big x 1 w (.inl rfl) hx0 hb).mono fun _ _ => fin
        · exact (bytes_big x 2 w (.inr (.inl rfl)) hx0 hb).mono fun _ _ => fin
        · exact (bytes_big x 4 w (.inr (.inr rfl)) hx0 hb).mono fun _ _ => fin
    · exact (bytes_unsized x s w (by simpa using hs)).mono fun _ _ => fin

theorem beB_le {x s : Int} (h : fitsB x s = true) : (beB x.toNat s.toNat).length ≤ 4 := by
  obtain ⟨a, n, rfl, rfl, hn, ha⟩ := fitsB_nat h
  rw [beB_length]; simp; omega

set_option maxRecDepth 100000 in
set_option maxHeartbeats 400000 in
theorem WNum_any (w : World) (g : Nat) (v : Value) (bs : List UInt8) (x s : Int) (h : IsWr 87 w g v bs) :
    Calls Try.prog 39 #[.pointer (some ⟨g, 0, none⟩), .int .i64 x, .int .i64 s] w fun e w' =>
      e = .returned (.int .i64 (wrNum bs x s).1) ∧ Wrote 87 w w' g v (wrNum bs x s).2 := by
  by_cases hf : fitsB x s = true
  · have hle := beB_le hf
    have e1 : wrNum bs x s = wrPut bs (catB [beB x.toNat s.toNat]) := by rw [wrNum, if_pos hf]; simp [catB]
    have E1 := Lib.hid e1; clear e1
    have HF := Lib.hid hf; clear hf
    rw [E1.out]
    go_enter Try.func39, Try.ntmps39
    go_wp2_with fail
    refine (bytes_any _ _ _).mono ?_
    rintro e w1 ⟨rfl, ht⟩
    rw [HF.out]
    simp only [if_true]
    go_wp2_with fail
    refine (put_any _ g w1.heap.size v bs [beB x.toNat s.toNat] (h.turn (ht.alloc _) (fun _ _ e => e)) (heap_alloc_new _ _) (by simp; omega) (fun e => by have := h.blk _ e; have := ht.size; omega) (by simp)).mono ?_
    rintro e w2 ⟨rfl, hw⟩
    have HW := Lib.hid hw; clear hw
    go_wp2
    go_ret
    exact ⟨rfl, Wrote.after (ht.alloc _) HW.out⟩
  · have hf' : fitsB x s = false := by simpa using hf
    have e1 : wrNum bs x s = (301, bs) := by rw [wrNum, if_neg hf]
    rw [e1]
    clear e1 hf
    have HF := Lib.hid hf'; clear hf'
    go_enter Try.func39, Try.ntmps39
    go_wp2_with fail
    refine (bytes_any _ _ _).mono ?_
    rintro e w1 ⟨rfl, ht⟩
    rw [HF.out]
    go_wp2
    go_ret
    exact ⟨rfl, Wrote.same h ht⟩

theorem conv_own {T : TypeId} {w : World} {g : Nat} {v : Value} {bs : List UInt8} (h : IsWr T w g v bs) : (convert 48 9 v).run Try.prog w = .ok (.string (bstr bs)) w := by
  rcases h.own.2 with ⟨rfl, h0⟩ | ⟨g', cap, cur, rfl, _, hh, hn, _, hs, ht⟩
  · have e : bs = [] := List.eq_nil_of_length_eq_zero h0
    subst e
    exact run_convert_bytes_nil w _ _ Try.underlying48 Try.underlying5 0 0 _ Try.underlying9
  · refine conv_cells w _ _ _ Try.underlying48 Try.underlying5 Try.underlying9 g' 0 bs.length cap bs rfl fun i hi => ?_
    have := h.own.cells (g := g') rfl i (u8 (bs.getD i 0)) (by simp [u8s, List.getD, hi])
    simpa [Addr.add_lit] using this

set_option maxRecDepth 100000 in
set_option maxHeartbeats 400000 in
theorem WAll_any (w : World) (g : Nat) (v : Value) (bs : List UInt8) (h : IsWr 87 w g v bs) :
    Calls Try.prog 17 #[.pointer (some ⟨g, 0, none⟩)] w fun e w' => e = .returned (.string (bstr bs)) ∧ w = w' := by
  have h1 := h.at
  have hcv := conv_own h
  go_enter Try.func17, Try.ntmps17
  go_wp2
  go_ret
  exact ⟨rfl, rfl⟩

/-- A reader at g with s left. -/
structure IsRd (T : TypeId) (w : World) (g : Nat) (s : List UInt8) : Prop where
  cell : w.heap[g]? = some (.cells #[.string (bstr s)] T (0, 0))
  len : s.length ≤ 4611686018427387904
theorem IsRd.at {T : TypeId} {w : World} {g : Nat} {s : List UInt8} (h : IsRd T w g s) : w.cell? ⟨g, 0, none⟩ = some (.string (bstr s)) := by simp [World.cell?, h.cell]
theorem IsRd.free {T : TypeId} {w : World} {g : Nat} {s : List UInt8} (h : IsRd T w g s) : w.frozen? ⟨g, 0, none⟩ = false := by simp [World.frozen?, h.cell]
theorem IsRd.lt {T : TypeId} {w : World} {g : Nat} {s : List UInt8} (h : IsRd T w g s) : g < w.heap.size := (Array.getElem?_eq_some_iff.1 h.cell).1
theorem IsRd.turn {T : TypeId} {w w' : World} {g : Nat} {s : List UInt8} {S : Nat → Prop} (h : IsRd T w g s) (ht : Turn S w w') (hn : ¬ S g) : IsRd T w' g s := ⟨ht.obj h.cell hn, h.len⟩
/-- What a reader's call leaves. -/
structure Read (T : TypeId) (w w' : World) (g : Nat) (s : List UInt8) : Prop where
  rd : IsRd T w' g s
  turn : Turn (fun k => k = g) w w'
theorem Read.same {T : TypeId} {w w' : World} {g : Nat} {s : List UInt8} (h : IsRd T w g s) (ht : Pure w w') : Read T w w' g s := ⟨h.turn ht (fun e => e), ht.mono fun _ _ e => e.elim⟩
theorem Read.trans {T : TypeId} {w w1 w2 : World} {g : Nat} {s s' : List UInt8} (h : Read T w w1 g s) (k : Read T w1 w2 g s') : Read T w w2 g s' := ⟨k.rd, h.turn.trans k.turn fun _ _ e => e⟩
theorem Read.set {T : TypeId} {w : World} {g : Nat} {s s' : List UInt8} (h : IsRd T w g s) (hl : s'.length ≤ s.length) : Read T w (w.setCell ⟨g, 0, none⟩ (.string (bstr s'))) g s' :=
  ⟨⟨by simp [World.setCell, Array.getElem?_modify, h.cell], Nat.le_trans hl h.len⟩, (Turn.refl (fun k => k = g) w).setCell (p := ⟨g, 0, none⟩) (fun _ => rfl) _⟩

set_option maxRecDepth 100000 in
set_option maxHeartbeats 400000 in
theorem Open_any (w : World) (s : List UInt8) (hs : s.length ≤ 4611686018427387904) :
    Calls Try.prog 21 #[.string (bstr s)] w fun e w' => e = .returned (.pointer (some ⟨w.heap.size, 0, none⟩)) ∧ IsRd 100 w' w.heap.size s ∧ Pure w w' := by
  go_enter Try.func21, Try.ntmps21
  go_wp2
  go_ret
  exact ⟨rfl, ⟨heap_alloc_new w _, hs⟩, (Turn.refl _ _).alloc _⟩

/-- Cutting bytes off. -/
def rdCut (s : List UInt8) (n : Nat) : List UInt8 × Bool × List UInt8 := if n ≤ s.length then (s.take n, true, s.drop n) else ([], false, s)

set_option maxRecDepth 100000 in
set_option maxHeartbeats 400000 in
theorem cut_any (w : World) (g : Nat) (s : List UInt8) (n : Nat) (h : IsRd 100 w g s) :
    Calls Try.prog 50 #[.pointer (some ⟨g, 0, none⟩), .int .i64 n] w fun e w' =>
      e = .returned (.tuple #[.string (bstr (rdCut s n).1), .bool (rdCut s n).2.1]) ∧ Read 100 w w' g (rdCut s n).2.2 := by
  have h1 := h.at
  have h2 := h.free
  have hz := bstr_size s
  have hl := h.len
  by_cases hc : n ≤ s.length
  · have e1 : rdCut s n = (s.take n, true, s.drop n) := by rw [rdCut, if_pos hc]
    rw [e1]
    clear e1
    have ex1 : (bstr s).extract 0 n = bstr (s.take n) := by rw [bstr_ext]; simp
    have ex2 : (bstr s).extract n s.length = bstr (s.drop n) := by rw [bstr_ext]; simp
    have EX1 := Lib.hid ex1; clear ex1
    have EX2 := Lib.hid ex2; clear ex2
    go_enter Try.func50, Try.ntmps50
    go_wp2
    rw [EX1.out, EX2.out]
    go_ret2
    exact ⟨rfl, Read.set h (by simp)⟩
  · have e1 : rdCut s n = ([], false, s) := by rw [rdCut, if_neg hc]
    rw [e1]
    clear e1
    go_enter Try.func50, Try.ntmps50
    go_wp2
    go_ret2
    exact ⟨rfl, Read.same h (Turn.refl _ _)⟩

/-- The number of bytes, the highest first. -/
def numB : List UInt8 → Nat := List.foldl (fun x b => x * 256 + b.toNat) 0
theorem numB_snoc (l : List UInt8) (b : UInt8) : numB (l ++ [b]) = numB l * 256 + b.toNat := by simp [numB]
theorem numB_lt_gen : ∀ (l : List UInt8) (x : Nat), l.foldl (fun x b => x * 256 + b.toNat) x < (x + 1) * 256 ^ l.length
  | [], x => by simp
  | b :: l, x => by
    have h := numB_lt_gen l (x * 256 + b.toNat)
    have hb := b.toNat_lt
    refine Nat.lt_of_lt_of_le h ?_
    rw [List.length_cons, Nat.pow_succ, Nat.mul_comm (256 ^ l.length) 256, ← Nat.mul_assoc]
    exact Nat.mul_le_mul_right _ (by omega)
theorem numB_lt (l : List UInt8) : numB l < 256 ^ l.length := by simpa [numB] using numB_lt_gen l 0

/-- Reading a number. -/
def rdNum (s : List UInt8) (n : Int) : Int × Int × List UInt8 :=
  if sizedB n then (if n.toNat ≤ s.length then ((numB (s.take n.toNat) : Int), 0, s.drop n.toNat) else (0, 300, s)) else (0, 301, s)

set_option maxRecDepth 100000 in
set_option maxHeartbeats 400000 in
theorem RNum_any (w : World) (g : Nat) (s : List UInt8) (n : Int) (h : IsRd 100 w g s) :
    Calls Try.prog 22 #[.pointer (some ⟨g, 0, none⟩), .int .i64 n] w fun e w' =>
      e = .returned (.tuple #[.int .i64 (rdNum s n).1, .int .i64 (rdNum s n).2.1]) ∧ Read 100 w w' g (rdNum s n).2.2 := by
  by_cases hs : sizedB n = true
  · obtain ⟨m, rfl, hm0⟩ := sized_nat hs
    have hm : m ≤ 4 := by omega
    have HM0 := Lib.hid hm0; clear hm0
    by_cases hc : m ≤ s.length
    · have e1 : rdNum s m = ((numB (s.take m) : Int), 0, s.drop m) := by rw [rdNum, if_pos hs]; simp [hc]
      have e2 : rdCut s m = (s.take m, true, s.drop m) := by rw [rdCut, if_pos hc]
      have E1 := Lib.hid e1; clear e1
      have E2 := Lib.hid e2; clear e2
      have HS := Lib.hid hs; clear hs
      rw [E1.out]
      go_enter Try.func22, Try.ntmps22
      go_wp2_with fail
      refine (sized_any _ _).mono ?_
      rintro e w1 ⟨rfl, rfl⟩
      rw [HS.out]
      go_wp2_with fail
      refine (cut_any _ _ _ _ h).mono ?_
      rintro e w1 ⟨rfl, hr⟩
      rw [E2.out] at hr ⊢
      have HR := Lib.hid hr; clear hr
      have hz := bstr_size (s.take m)
      have hlt : (s.take m).length = m := by simp; omega
      rw [hlt] at hz
      generalize htt : s.take m = t at hz hlt ⊢
      have HTT := Lib.hid htt; clear htt
      go_wp2
      go_loop [8, 9, 27] (fun x _ i => ∃ k : Nat, k ≤ m ∧ i = .int .i64 k ∧ x = .int .i64 (numB (t.take k) : Nat)) (fun _ _ i => m - (intOf i).toNat)
      case atStart => exact ⟨0, by omega, rfl, by simp [numB]⟩
      case round =>
        obtain ⟨k, hk, rfl, rfl⟩ := hrel
        by_cases hlk : k < m
        · have hx := numB_lt (t.take k)
          have hp : 256 ^ (t.take k).length ≤ 256 ^ 3 := Nat.pow_le_pow_right (by omega) (by simp; omega)
          have hx2 : numB (t.take k) < 16777216 := by omega
          clear hx hp
          generalize hX : numB (t.take k) = X at hx2
          have HX := Lib.hid hX; clear hX
          have hsn : numB (t.take (k + 1)) = X * 256 + (t.getD k 0).toNat := by
            rw [List.take_add_one, show t[k]? = some (t.getD k 0) from by simp [List.getD, show k < t.length by omega], Option.toList_some, numB_snoc, HX.out]
          have HSN := Lib.hid hsn; clear hsn
          go_wp2
          refine ⟨⟨k + 1, by omega, by go_num, ?_⟩, by simp [intOf]; omega⟩
          have hb := (t.getD k 0).toNat_lt
          rw [bstr_get, wrap_byte, or8 X _ (by omega) (by omega) (by omega), HSN.out]
          go_num
        · obtain rfl : k = m := by omega
          have ht : t.take k = t := List.take_of_length_le (by omega)
          rw [ht]
          go_wp2
          go_ret2
          exact ⟨by rw [HTT.out]; rfl, HR.out⟩
    · have e1 : rdNum s m = (0, 300, s) := by rw [rdNum, if_pos hs]; simp [hc]
      have e2 : rdCut s m = ([], false, s) := by rw [rdCut, if_neg hc]
      have E1 := Lib.hid e1; clear e1
      have E2 := Lib.hid e2; clear e2
      have HS := Lib.hid hs; clear hs
      rw [E1.out]
      go_enter Try.func22, Try.ntmps22
      go_wp2_with fail
      refine (sized_any _ _).mono ?_
      rintro e w1 ⟨rfl, rfl⟩
      rw [HS.out]
      go_wp2_with fail
      refine (cut_any _ _ _ _ h).mono ?_
      rintro e w1 ⟨rfl, hr⟩
      rw [E2.out] at hr ⊢
      have HR := Lib.hid hr; clear hr
      go_wp2
      go_ret2
      exact ⟨rfl, HR.out⟩
  · have hs' : sizedB n = false := by simpa using hs
    have e1 : rdNum s n = (0, 301, s) := by rw [rdNum, if_neg hs]
    rw [e1]
    clear e1 hs
    have HS := Lib.hid hs'; clear hs'
    go_enter Try.func22, Try.ntmps22
    go_wp2_with fail
    refine (sized_any _ _).mono ?_
    rintro e w1 ⟨rfl, rfl⟩
    rw [HS.out]
    go_wp2
    go_ret2
    exact ⟨rfl, Read.same h (Turn.refl _ _)⟩


/-- A writer that was made behind w0, all that was there unturned. -/
def OwnW (T : TypeId) (w0 w : World) (g : Nat) (bs : List UInt8) : Prop := ∃ v, IsWr T w g v bs ∧ (∀ k, WrB g v k → w0.heap.size ≤ k) ∧ Pure w0 w
theorem OwnW.pure {T : TypeId} {w0 w : World} {g : Nat} {bs : List UInt8} (h : OwnW T w0 w g bs) : Pure w0 w := by obtain ⟨_, _, _, h⟩ := h; exact h
theorem OwnW.next {T : TypeId} {w0 w w' : World} {g : Nat} {bs : List UInt8} (h : OwnW T w0 w g bs) (ht : Pure w w') : OwnW T w0 w' g bs := by
  obtain ⟨v, h1, h2, h3⟩ := h
  exact ⟨v, h1.turn ht (fun _ _ e => e), h2, h3.pure ht⟩
theorem OwnW.wrote {T : TypeId} {w0 w w' : World} {g : Nat} {v : Value} {bs : List UInt8} (h2 : ∀ k, WrB g v k → w0.heap.size ≤ k) (h3 : Pure w0 w) (hw : Wrote T w w' g v bs) : OwnW T w0 w' g bs := by
  obtain ⟨⟨v', h1, hb⟩, ht⟩ := hw
  refine ⟨v', h1, ?_, h3.trans ht fun i hi e => by have := h2 i e; omega⟩
  rintro k (rfl | e)
  · exact h2 k (.inl rfl)
  · rcases hb with f | f
    · exact h2 k (.inr (by rw [← f]; exact e))
    · exact Nat.le_trans h3.size (f k e)
theorem New_own {w0 w : World} (h : Pure w0 w) :
    Calls Try.prog 15 #[] w fun e w' => e = .returned (.pointer (some ⟨w.heap.size, 0, none⟩)) ∧ OwnW 87 w0 w' w.heap.size [] := by
  refine (WNew_any w).mono ?_
  rintro e w' ⟨rfl, h1, h2⟩
  refine ⟨rfl, _, h1, ?_, h.pure h2⟩
  rintro k (rfl | e)
  · exact h.size
  · simp [Value.ownBlock] at e
theorem WNum_own {w0 w : World} {g : Nat} {bs : List UInt8} (x s : Int) (h : OwnW 87 w0 w g bs) :
    Calls Try.prog 39 #[.pointer (some ⟨g, 0, none⟩), .int .i64 x, .int .i64 s] w fun e w' =>
      e = .returned (.int .i64 (wrNum bs x s).1) ∧ OwnW 87 w0 w' g (wrNum bs x s).2 := by
  obtain ⟨v, h1, h2, h3⟩ := h
  exact (WNum_any w g v bs x s h1).mono fun e w' ⟨he, hw⟩ => ⟨he, OwnW.wrote h2 h3 hw⟩
theorem WAll_own {w0 w : World} {g : Nat} {bs : List UInt8} (h : OwnW 87 w0 w g bs) :
    Calls Try.prog 17 #[.pointer (some ⟨g, 0, none⟩)] w fun e w' => e = .returned (.string (bstr bs)) ∧ w = w' := by
  obtain ⟨v, h1, _, _⟩ := h
  exact WAll_any w g v bs h1

/-- A reader that was made behind w0. -/
structure OwnR (w0 w : World) (g : Nat) (s : List UInt8) : Prop where
  rd : IsRd 100 w g s
  new : w0.heap.size ≤ g
  pure : Pure w0 w
theorem OwnR.next {w0 w w' : World} {g : Nat} {s : List UInt8} (h : OwnR w0 w g s) (ht : Pure w w') : OwnR w0 w' g s := ⟨h.rd.turn ht (fun e => e), h.new, h.pure.pure ht⟩
theorem OwnR.read {w0 w w' : World} {g : Nat} {s s' : List UInt8} (h : OwnR w0 w g s) (hr : Read 100 w w' g s') : OwnR w0 w' g s' :=
  ⟨hr.rd, h.new, h.pure.trans hr.turn fun i hi e => by have := h.new; omega⟩
theorem Open_own {w0 w : World} (s : List UInt8) (h : Pure w0 w) (hs : s.length ≤ 4611686018427387904) :
    Calls Try.prog 21 #[.string (bstr s)] w fun e w' => e = .returned (.pointer (some ⟨w.heap.size, 0, none⟩)) ∧ OwnR w0 w' w.heap.size s :=
  (Open_any w s hs).mono fun _ _ ⟨he, h1, h2⟩ => ⟨he, h1, h.size, h.pure h2⟩
theorem RNum_own {w0 w : World} {g : Nat} {s : List UInt8} (n : Int) (h : OwnR w0 w g s) :
    Calls Try.prog 22 #[.pointer (some ⟨g, 0, none⟩), .int .i64 n] w fun e w' =>
      e = .returned (.tuple #[.int .i64 (rdNum s n).1, .int .i64 (rdNum s n).2.1]) ∧ OwnR w0 w' g (rdNum s n).2.2 :=
  (RNum_any w g s n h.rd).mono fun _ _ ⟨he, hr⟩ => ⟨he, h.read hr⟩
theorem Num_any (x : Int) (w : World) : Calls Try.prog 11 #[.int .i64 x] w fun e w' => e = .returned (.int .i64 x) ∧ w = w' := by
  go_enter Try.func11, Try.ntmps11
  go_wp2
  go_ret
  exact ⟨rfl, rfl⟩
theorem wrNum_fit {bs : List UInt8} {x n : Nat} (hn : n = 1 ∨ n = 2 ∨ n = 4) (hx : x < 256 ^ n) (hl : bs.length ≤ 60000) : wrNum bs (x : Int) (n : Int) = (0, bs ++ beB x n) := by
  have hf : fitsB (x : Int) (n : Int) = true := by
    simp only [fitsB, Bool.and_eq_true, decide_eq_true_eq, Int.toNat_natCast]
    refine ⟨⟨by rcases hn with rfl | rfl | rfl <;> rfl, by omega⟩, ?_⟩
    have : ((256 ^ n : Nat) : Int) = (256 : Int) ^ n := by rw [Int.natCast_pow]; rfl
    rw [← this]; omega
  rw [wrNum, if_pos hf, Int.toNat_natCast, Int.toNat_natCast, wrPut, if_pos (by rw [beB_length]; omega)]

theorem wrPut_fit {bs q : List UInt8} (hl : bs.length ≤ 60000) (hq : q.length ≤ 1000) : wrPut bs q = (0, bs ++ q) := by rw [wrPut, if_pos (by omega)]
end Go.Proofs.Ytigkmdjdnkbdkaa
