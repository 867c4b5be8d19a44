/- Chapters 1 and 2: a digest written piece by piece; what a tagged digest is of: the plain law. Chapter 2: the pieces of a tagged digest, yielded. Chapter 2: a tagged digest: the program's. -/
import Derived.Test.YtcfbmbhkdicpfaaShaM
import Derived.Test.YtcfbmbhkdicpfaaRange
import Derived.Test.YtcfbmbhkdicpfaaRowN
import Derived.Shelf.Abstract
import Derived.Test.YtcfbmbhkdicpfaaSha0
namespace Go.Proofs.Ytcfbmbhkdicpfaa
open Go.RowKit

theorem blockAt_left {s t : List UInt8} {n : Nat} (h : 64 * (n + 1) ≤ s.length) : blockAt (s ++ t) n = blockAt s n := by
  unfold blockAt
  rw [List.drop_append_of_le_length (by omega), List.take_append_of_le_length (by rw [List.length_drop]; omega)]
theorem blocksV_left (h : V8) {s t : List UInt8} : ∀ n, 64 * n ≤ s.length → blocksV h (s ++ t) n = blocksV h s n
  | 0, _ => rfl
  | n + 1, hn => by rw [blocksV, blocksV, blocksV_left h n (by omega), blockAt_left hn]
theorem blockAt_right {p u : List UInt8} {m n : Nat} (h : p.length = 64 * m) : blockAt (p ++ u) (m + n) = blockAt u n := by
  unfold blockAt
  rw [show 64 * (m + n) = p.length + 64 * n by omega, List.drop_length_add_append]
theorem blocksV_right (h : V8) {p u : List UInt8} {m : Nat} (hp : p.length = 64 * m) : ∀ n, blocksV h (p ++ u) (m + n) = blocksV (blocksV h p m) u n
  | 0 => by rw [Nat.add_zero, blocksV_left h m (by omega)]; rfl
  | n + 1 => by
    rw [← Nat.add_assoc, blocksV, blocksV, blocksV_right h hp n, blockAt_right hp]
/-- The text so far, and more. -/
theorem blocks_more (h : V8) (acc s : List UInt8) : blocksV (blocksV h acc (acc.length / 64)) (restOf acc ++ s) ((restOf acc ++ s).length / 64) = blocksV h (acc ++ s) ((acc ++ s).length / 64) ∧ restOf (restOf acc ++ s) = restOf (acc ++ s) := by
  obtain ⟨m, hm⟩ : ∃ m, m = acc.length / 64 := ⟨_, rfl⟩
  have hr := restOf_length acc
  have hpl : (acc.take (64 * m)).length = 64 * m := by rw [List.length_take]; omega
  have e1 : acc = acc.take (64 * m) ++ restOf acc := by rw [restOf, ← hm, List.take_append_drop]
  have e2 : acc ++ s = acc.take (64 * m) ++ (restOf acc ++ s) := by rw [← List.append_assoc, ← e1]
  have e3 : (acc ++ s).length / 64 = m + (restOf acc ++ s).length / 64 := by rw [List.length_append, List.length_append, hr]; omega
  have e4 : blocksV h acc m = blocksV h (acc.take (64 * m)) m := by
    have := blocksV_left h (s := acc.take (64 * m)) (t := restOf acc) m (by omega)
    rwa [← e1] at this
  constructor
  · rw [e3, e2, blocksV_right h hpl, ← hm, e4]
  · have f : ∀ x : List UInt8, restOf x = x.drop (64 * (x.length / 64)) := fun _ => rfl
    rw [f (restOf acc ++ s), f (acc ++ s), e3, e2, show 64 * (m + (restOf acc ++ s).length / 64) = (acc.take (64 * m)).length + 64 * ((restOf acc ++ s).length / 64) by omega, List.drop_length_add_append]
/-- A digest that has been written so far. -/
def DigOf (w : World) (g : Nat) (B : Nat) (acc : List UInt8) : Prop := ∃ v, Dig w g (blocksV shaH0 acc (acc.length / 64)) v (restOf acc) acc.length ∧ ∀ k, v.ownBlock = some k → B ≤ k
theorem NewOf_any (w : World) : Calls Try.prog 127 #[] w fun e w' => ∃ g, e = .returned (.pointer (some ⟨g, 0, none⟩)) ∧ (∀ B, DigOf w' g B []) ∧ w.heap.size ≤ g ∧ Pure w w' := by
  refine (New_any w).mono ?_
  rintro e w' ⟨g, he, hd, hg, ht⟩
  exact ⟨g, he, fun B => ⟨_, hd, fun k hk => by simp [Value.ownBlock] at hk⟩, hg, ht⟩
theorem WriteOf_any (w : World) (g B : Nat) (acc s : List UInt8) (hd : DigOf w g B acc) (hB : B ≤ w.heap.size) (hb : acc.length + s.length ≤ 140737488355000) : Calls Try.prog 129 #[.pointer (some ⟨g, 0, none⟩), .string (bstr s)] w fun e w' => e = .returned (.tuple #[]) ∧ DigOf w' g B (acc ++ s) ∧ Turn (fun k => k = g ∨ B ≤ k) w w' := by
  obtain ⟨v, hd, hv⟩ := hd
  have hr := restOf_length acc
  refine (Write_any w g _ v (restOf acc) acc.length s hd (by rw [hr]; omega) (by omega)).mono ?_
  rintro e w' ⟨he, v', hd', hv', ht⟩
  obtain ⟨e1, e2⟩ := blocks_more shaH0 acc s
  rw [e1, e2, ← List.length_append] at hd'
  exact ⟨he, ⟨v', hd', fun k hk => by have := hv' k hk; omega⟩, ht.mono fun k _ e => e.elim Or.inl fun e => Or.inr (hv k e)⟩
theorem SumOf_any (w : World) (g B : Nat) (acc : List UInt8) (hd : DigOf w g B acc) (hb : acc.length ≤ 140737488355000) : Calls Try.prog 130 #[.pointer (some ⟨g, 0, none⟩)] w fun e w' => e = .returned (hv (shaV acc)) ∧ Pure w w' := by
  obtain ⟨v, hd, _⟩ := hd
  exact DSum_any w g _ v _ _ hd (restOf_length _) (by omega)
theorem DigOf.turn {w w' : World} {g B : Nat} {acc : List UInt8} {S : Nat → Prop} (h : DigOf w g B acc) (t : Turn S w w') (hg : ¬ S g) (hS : ∀ k, B ≤ k → ¬ S k) : DigOf w' g B acc := by
  obtain ⟨v, hd, hv⟩ := h
  exact ⟨v, ⟨t.obj hd.at_ hg, t.own hd.own fun k hk e => hS k (hv k hk) e, hd.ne⟩, hv⟩

/-- What a tagged digest is of. -/
def tagIn (t : Nat) (ps : List (List UInt8)) : List UInt8 := [UInt8.ofNat t] ++ ps.flatMap fun p => beB p.length 4 ++ p
def tagV (t : Nat) (ps : List (List UInt8)) : List UInt8 := shaV (tagIn t ps)
end Go.Proofs.Ytcfbmbhkdicpfaa
namespace Go.Proofs.Ytcfbmbhkdicpfaa
open Go.RowKit
set_option maxRecDepth 100000

/-- The pieces, one by one. -/
def pieceAt (t : Nat) (ps : List (List UInt8)) (j : Nat) : List UInt8 := if j = 0 then [UInt8.ofNat t] else if j % 2 = 1 then beB (ps.getD (j / 2) []).length 4 else ps.getD (j / 2 - 1) []
def accV (t : Nat) (ps : List (List UInt8)) : Nat → List UInt8
  | 0 => []
  | j + 1 => accV t ps j ++ pieceAt t ps j
theorem accV_odd (t : Nat) (ps : List (List UInt8)) : ∀ k, k ≤ ps.length → accV t ps (1 + 2 * k) = [UInt8.ofNat t] ++ (ps.take k).flatMap fun p => beB p.length 4 ++ p
  | 0, _ => by simp [accV, pieceAt]
  | k + 1, h => by
    have e1 : pieceAt t ps (1 + 2 * k) = beB (ps.getD k []).length 4 := by rw [pieceAt, if_neg (by omega), if_pos (by omega), show (1 + 2 * k) / 2 = k by omega]
    have e2 : pieceAt t ps (1 + 2 * k + 1) = ps.getD k [] := by rw [pieceAt, if_neg (by omega), if_neg (by omega), show (1 + 2 * k + 1) / 2 - 1 = k by omega]
    have e3 : ps.take (k + 1) = ps.take k ++ [ps.getD k []] := by
      rw [List.take_add_one, List.getElem?_eq_getElem (by omega), List.getD_eq_getElem?_getD, List.getElem?_eq_getElem (by omega)]; rfl
    rw [show 1 + 2 * (k + 1) = 1 + 2 * k + 1 + 1 by omega, accV, accV, accV_odd t ps k (by omega), e1, e2, e3, List.flatMap_append]
    simp
theorem accV_full (t : Nat) (ps : List (List UInt8)) : accV t ps (1 + 2 * ps.length) = tagIn t ps := by
  rw [accV_odd t ps _ (Nat.le_refl _), List.take_length, tagIn]

section
variable {P : Program} {ops : Array Oper} {Q : Exit → Act → World → Prop}
/-- An operation, by the plain kit. -/
theorem wpListIn_op {n : Nat} {o : Oper} {rest : List Oper} {a : Act} {w : World} (hg : o.guard = none) (hd : Oper.noDefer o = true) (h : ∀ K : Act → World → Prop, (∀ a w, wpListIn Fence.wide n P ops Q rest a w → K a w) → o.wp P a w K Q) : wpListIn Fence.wide n P ops Q (o :: rest) a w :=
  wpListIn_plain hg fun K hK => ⟨fun f _ => fnAny (.inl rfl) f, by
    rw [semAt_plain (.inl rfl) hd]
    have := h K hK
    unfold Oper.wp at this
    exact uponIn_of_upon (.inl rfl) this⟩
/-- A call of yield whose guard is met. -/
theorem wpListIn_yield_w {n : Nat} {o : Oper} {rest : List Oper} {a : Act} {w : World} (hw : Region.wanted o (yielded ops a.tmps) = true) (f x : Operand) (ts : Array TypeId) (ho : o.op = .call { callee := .value f, args := #[x], argTypes := ts }) (l : Nat) (v : Value) (hf : a.eval f = .func (.yield l) #[] #[]) (hx : a.eval x = v)
    (R : Ending → World → Prop) (hy : YieldAt Fence.wide 0 P l #[v] w R) (h : ∀ e w', R e w' → ∃ u, e = .returned u ∧ wpListIn Fence.wide n P ops Q rest (a.put o.dst u) w') : wpListIn Fence.wide n P ops Q (o :: rest) a w := by
  obtain ⟨fn, tmps, assign, body, hrun, hR⟩ := hy
  rw [wpListIn, if_pos hw]
  refine ⟨fun f _ => fnAny (.inl rfl) f, ?_⟩
  rw [semAt_plain (.inl rfl) (by unfold Oper.noDefer; rw [ho])]
  have hr : (execOp a.eval o).run P w = .ok (.round l fn tmps assign body) w := by
    unfold execOp
    simp only [ho, resolve, invoke, Sem.run_bind, List.map_toArray, List.map_cons, List.map_nil, hf, hx]
    simpa [go_sem] using hrun
  rw [hr, Oper.uponIn_round]
  refine ⟨(fun h => by cases h), ?_⟩
  have hR' : RoundIn Fence.wide (n - 1) P l fn tmps assign body w R := ⟨hR.1, fun c cs _ => hR.2 c cs (room_wide _)⟩
  refine hR'.mono fun e w' he => ?_
  obtain ⟨u, rfl, hu⟩ := h e w' he
  exact hu
end
theorem infoU8p : (Try.prog.info? 5).map (fun i => (i.zero, i.size)) = some (some (.int .u8 0), 1) := by kernel_rfl
theorem u8Parts : ∃ i, Hid (Try.prog.info? 5 = some i) ∧ i.zero = some (.int .u8 0) ∧ i.size = 1 := by
  have h := infoU8p
  cases hi : Try.prog.info? 5 with
  | none => rw [hi] at h; simp at h
  | some i =>
    rw [hi] at h
    simp only [Option.map_some, Option.some.injEq, Prod.mk.injEq] at h
    exact ⟨i, Lib.hid rfl, h.1, h.2⟩
section
variable {n : Nat} {ops : Array Oper} {Q : Exit → Act → World → Prop} {rest : List Oper} {o : Oper} {a : Act} {w : World}
theorem wpListIn_u8 (hg : o.guard = none) (x : Operand) (ho : o.op = .buildSlice 65 1 #[(0, x)]) (v : UInt8) (hx : a.eval x = u8 v)
    (h : ∀ g w', g = w.heap.size → w'.heap[g]? = some (.cells (u8s [v]).toArray 5 (0, 0)) → Pure w w' → wpListIn Fence.wide n Try.prog ops Q rest (a.put o.dst (.slice (some ⟨g, 0, none⟩) 1 1)) w') : wpListIn Fence.wide n Try.prog ops Q (o :: rest) a w := by
  obtain ⟨i, hi, h1, h2⟩ := u8Parts
  refine wpListIn_op hg (by unfold Oper.noDefer; rw [ho]) fun K hK => ?_
  refine wp_buildSlice 65 5 1 #[(0, x)] ho (u8s [v]).toArray i _ Try.underlying65 hi.out h1 (by rw [h2]; omega) (by rw [h2]; omega) ?_ (hK _ _ (h _ _ rfl (heap_alloc_new _ _) ((Turn.refl _ _).alloc _)))
  rw [h2]
  simp [Instr.fill, hx, Value.cells, u8s, u8, show Array.range 1 = #[0] from rfl]
theorem wpListIn_u8x4 (hg : o.guard = none) (x y z u : Operand) (ho : o.op = .buildSlice 65 4 #[(0, x), (1, y), (2, z), (3, u)]) (b0 b1 b2 b3 : UInt8) (hx : a.eval x = u8 b0) (hy : a.eval y = u8 b1) (hz : a.eval z = u8 b2) (hu : a.eval u = u8 b3)
    (h : ∀ g w', g = w.heap.size → w'.heap[g]? = some (.cells (u8s [b0, b1, b2, b3]).toArray 5 (0, 0)) → Pure w w' → wpListIn Fence.wide n Try.prog ops Q rest (a.put o.dst (.slice (some ⟨g, 0, none⟩) 4 4)) w') : wpListIn Fence.wide n Try.prog ops Q (o :: rest) a w := by
  obtain ⟨i, hi, h1, h2⟩ := u8Parts
  refine wpListIn_op hg (by unfold Oper.noDefer; rw [ho]) fun K hK => ?_
  refine wp_buildSlice 65 5 4 _ ho (u8s [b0, b1, b2, b3]).toArray i _ Try.underlying65 hi.out h1 (by rw [h2]; omega) (by rw [h2]; omega) ?_ (hK _ _ (h _ _ rfl (heap_alloc_new _ _) ((Turn.refl _ _).alloc _)))
  rw [h2]
  simp [Instr.fill, hx, hy, hz, hu, Value.cells, u8s, u8, show Array.range 4 = #[0, 1, 2, 3] from rfl]
end
/-- The four bytes of a length. -/
theorem be4_bytes (m : Nat) (hm : m ≤ 65536) : ∃ b0 b1 b2 b3 : UInt8, beB m 4 = [b0, b1, b2, b3] ∧ IntKind.u8.wrap ((m : Int) / 16777216) = (b0.toNat : Int) ∧ IntKind.u8.wrap ((m : Int) / 65536) = (b1.toNat : Int) ∧ IntKind.u8.wrap ((m : Int) / 256) = (b2.toNat : Int) ∧ IntKind.u8.wrap (m : Int) = (b3.toNat : Int) := by
  refine ⟨_, _, _, _, rfl, ?_, ?_, ?_, ?_⟩ <;> rw [IntKind.wrap_u8, UInt8.toNat_ofNat', Nat.shiftRight_eq_div_pow] <;> simp only [Nat.reduceMul, Nat.reducePow] <;> omega
theorem enters_pieces : ∀ (args : Array Value) (w : World), (callFunc 148 args).run Try.prog w = .ok (.enter 148 args) w := enters_of Try.func148 (by kernel_rfl) rfl
/-- The variables that the iterator holds. -/
def Pieces (W : World) (gt gp g t : Nat) (ps : List (List UInt8)) : Prop := W.heap[gt]? = some (.cells #[.int .i64 (t : Int)] 3 (0, 0)) ∧ W.heap[gp]? = some (.cells #[.slice (some ⟨g, 0, none⟩) ps.length ps.length] 47 (0, 0)) ∧ W.heap[g]? = some (.cells (strsV ps).toArray 9 (0, 0))
set_option maxHeartbeats 4000000 in
theorem pieces_any (w : World) (g t : Nat) (ps : List (List UInt8)) (hg : w.heap[g]? = some (.cells (strsV ps).toArray 9 (0, 0))) : Calls Try.prog 128 #[.int .i64 (t : Int), .slice (some ⟨g, 0, none⟩) ps.length ps.length] w fun e w' =>
    ∃ gt gp, e = .returned (.func (.func 148) #[] #[.pointer (some ⟨gt, 0, none⟩), .pointer (some ⟨gp, 0, none⟩)]) ∧ Pieces w' gt gp g t ps ∧ w.heap.size ≤ gt ∧ w.heap.size ≤ gp ∧ gt < w'.heap.size ∧ gp < w'.heap.size ∧ Pure w w' := by
  have HG := Lib.hid hg
  clear hg
  obtain ⟨n, hn⟩ : ∃ n, n = ps.length := ⟨_, rfl⟩
  unfold Pieces
  rw [← hn]
  have HN := Lib.hid hn
  clear hn
  go_enter Try.func128, Try.ntmps128
  go_wp2
  go_ret
  have t1 : Pure w (w.alloc (.cells #[.int .i64 (t : Int)] 3)) := (Turn.refl _ _).alloc _
  have t2 := t1.alloc (.cells #[.slice (some ⟨g, 0, none⟩) n n] 47)
  refine ⟨_, _, rfl, ⟨?_, ?_, t2.obj HG.out (fun e => e)⟩, ?_, ?_, ?_, ?_, t2⟩
  · exact ((Turn.refl (fun _ => False) (w.alloc (.cells #[.int .i64 (t : Int)] 3))).alloc (.cells #[.slice (some ⟨g, 0, none⟩) n n] 47)).obj (heap_alloc_new _ _) (fun e => e)
  · have := heap_alloc_new (w.alloc (.cells #[.int .i64 (t : Int)] 3)) (.cells #[.slice (some ⟨g, 0, none⟩) n n] 47)
    simpa using this
  all_goals (first | (simp; done) | (simp; omega))

set_option maxHeartbeats 4000000 in
theorem pieces_it (l B : Nat) {gt gp g t : Nat} {ps : List (List UInt8)} (hp : ∀ x ∈ ps, x.length ≤ 65536) (hps : ps.length ≤ 1000)
    (S : Nat → Prop) (h1 : ¬ S gt ∧ gt < B) (h2 : ¬ S gp ∧ gp < B) (h3 : ¬ S g ∧ g < B) (J : Nat → World → Prop) (W1 : World) (hB : Pieces W1 gt gp g t ps) (stab : ∀ j W W', J j W → Pure W W' → J j W')
    (hround : ∀ j W, j < 1 + 2 * ps.length → J j W → YieldAt Fence.wide 0 Try.prog l #[.string (bstr (pieceAt t ps j))] W fun e W' => e = .returned (.bool true) ∧ J (j + 1) W' ∧ Turn (fun k => S k ∨ B ≤ k) W W') (h0 : J 0 W1) :
    CallsIn Fence.wide 0 Try.prog 148 #[.func (.yield l) #[] #[], .pointer (some ⟨gt, 0, none⟩), .pointer (some ⟨gp, 0, none⟩)] W1 fun e W' => (∃ v, e = .returned v) ∧ J (1 + 2 * ps.length) W' := by
  have HST := Lib.hid stab; have HRD := Lib.hid hround; have HB0 := Lib.hid hB; have HJ0 := Lib.hid h0; have HP := Lib.hid hp
  clear stab hround hB h0 hp
  refine callsIn_of_wp Try.func148 rfl trivial ?_ rfl
  simp only [Try.ntmps148, List.size_toArray, List.length_cons, List.length_nil, Nat.reduceAdd, Nat.reduceSub, Array.replicate_succ, Array.replicate_zero, List.push_toArray, List.append_toArray, List.nil_append, List.cons_append]
  obtain ⟨b1, b2, b3⟩ := HB0.out
  have c1 : W1.cell? ⟨gt, 0, none⟩ = some (.int .i64 (t : Int)) := by rw [cell_of_row W1 gt 0 _ _ _ b1]; rfl
  obtain ⟨tb, htb⟩ : ∃ tb, tb = UInt8.ofNat t := ⟨_, rfl⟩
  have it : IntKind.u8.wrap (t : Int) = (tb.toNat : Int) := by rw [htb, UInt8.toNat_ofNat', IntKind.wrap_u8]; omega
  have HTB := Lib.hid htb
  clear htb b1 b2 b3
  gi_wp2_with (first | (refine wpListIn_u8 rfl _ rfl tb rfl ?_))
  intro g2 w2 e2 d2 t2
  have hcv := conv_block (P := Try.prog) w2 65 5 9 5 (0, 0) Try.underlying65 Try.underlying5 Try.underlying9 g2 1 [tb] 1 rfl d2
  have hy := HRD.out 0 w2 (by omega) (HST.out 0 _ _ HJ0.out t2)
  rw [show pieceAt t ps 0 = [UInt8.ofNat t] from rfl, ← HTB.out] at hy
  have hB2 : Pieces w2 gt gp g t ps := ⟨t2.obj HB0.out.1 (fun e => e), t2.obj HB0.out.2.1 (fun e => e), t2.obj HB0.out.2.2 (fun e => e)⟩
  have HB2 := Lib.hid hB2
  clear hB2 d2 t2 e2 c1 it
  gi_wp2_with (refine wpListIn_yield rfl _ _ _ rfl l _ rfl rfl _ hy ?_)
  rintro e w3 rfl hJ3 ht3
  refine ⟨_, rfl, ?_⟩
  have hB3 : Pieces w3 gt gp g t ps := ⟨ht3.obj HB2.out.1 (fun hk => hk.elim h1.1 (by omega)), ht3.obj HB2.out.2.1 (fun hk => hk.elim h2.1 (by omega)), ht3.obj HB2.out.2.2 (fun hk => hk.elim h3.1 (by omega))⟩
  have HB3 := Lib.hid hB3; have HJ3 := Lib.hid hJ3
  clear hB3 hJ3 ht3 hy hcv
  obtain ⟨_, b2, _⟩ := HB3.out
  have c2 : w3.cell? ⟨gp, 0, none⟩ = some (.slice (some ⟨g, 0, none⟩) ps.length ps.length) := by rw [cell_of_row w3 gp 0 _ _ _ b2]; rfl
  obtain ⟨n, hn⟩ : ∃ n, n = ps.length := ⟨_, rfl⟩
  rw [← hn] at c2 hps
  have HN := Lib.hid hn
  clear b2 hn
  gi_wp2
  clear c2
  gi_loopw [16] (fun i wr => ∃ k : Nat, k ≤ n ∧ i = .int .i64 (k : Int) ∧ Hid (Pieces wr gt gp g t ps) ∧ Hid (J (1 + 2 * k) wr)) (fun i _ => n - (intOf i).toNat)
  case atStart => exact ⟨0, Nat.zero_le _, rfl, HB3, HJ3⟩
  case round =>
    clear HB3 HJ3
    obtain ⟨k, hk, rfl, HB, HJ⟩ := hrel
    by_cases hlt : k < n
    · have hkl : k < ps.length := by have := HN.out; omega
      have ca := strs_cell (i := k) (x := ps[k]) (List.getElem?_eq_getElem hkl) HB.out.2.2
      have hx := HP.out ps[k] (List.getElem_mem hkl)
      have e1 : pieceAt t ps (1 + 2 * k) = beB (ps[k]).length 4 := by rw [pieceAt, if_neg (by omega), if_pos (by omega), show (1 + 2 * k) / 2 = k by omega, List.getD_eq_getElem?_getD, List.getElem?_eq_getElem hkl]; rfl
      have e2 : pieceAt t ps (1 + 2 * k + 1) = ps[k] := by rw [pieceAt, if_neg (by omega), if_neg (by omega), show (1 + 2 * k + 1) / 2 - 1 = k by omega, List.getD_eq_getElem?_getD, List.getElem?_eq_getElem hkl]; rfl
      have zx := bstr_size ps[k]
      generalize ps[k] = x at *
      obtain ⟨m, hm⟩ : ∃ m, m = x.length := ⟨_, rfl⟩
      rw [← hm] at zx hx e1
      clear hm
      obtain ⟨b0, b1, b2, b3, hb4, i0, i1, i2, i3⟩ := be4_bytes m hx
      rw [hb4] at e1
      have HE1 := Lib.hid e1; have HE2 := Lib.hid e2
      have q1 : (k : Int) < n := by omega
      have q0 : (0 : Int) ≤ k := by omega
      have i5 : IntKind.i64.wrap ((k : Int) + 1) = ((k + 1 : Nat) : Int) := by rw [IntWalk.i64_in _ (by omega)]; omega
      clear e1 e2 hb4
      gi_wp2_with (first | (refine wpListIn_u8x4 rfl _ _ _ _ rfl b0 b1 b2 b3 rfl rfl rfl rfl ?_))
      intro g4 w4 e4 d4 t4
      clear e4
      have hcv := conv_block (P := Try.prog) w4 65 5 9 5 (0, 0) Try.underlying65 Try.underlying5 Try.underlying9 g4 4 [b0, b1, b2, b3] 4 rfl d4
      have hy := HRD.out (1 + 2 * k) w4 (by omega) (HST.out _ _ _ HJ.out t4)
      rw [HE1.out] at hy
      have HB4 : Hid (Pieces w4 gt gp g t ps) := Lib.hid ⟨t4.obj HB.out.1 (fun e => e), t4.obj HB.out.2.1 (fun e => e), t4.obj HB.out.2.2 (fun e => e)⟩
      clear d4 t4 ca i0 i1 i2 i3 HB HJ
      gi_wp2_with (refine wpListIn_yield rfl _ _ _ rfl l _ rfl rfl _ hy ?_)
      rintro e w5 rfl hJ5 ht5
      refine ⟨_, rfl, ?_⟩
      have HB5 : Hid (Pieces w5 gt gp g t ps) := Lib.hid ⟨ht5.obj HB4.out.1 (fun hk => hk.elim h1.1 (by omega)), ht5.obj HB4.out.2.1 (fun hk => hk.elim h2.1 (by omega)), ht5.obj HB4.out.2.2 (fun hk => hk.elim h3.1 (by omega))⟩
      have hy2 := HRD.out (1 + 2 * k + 1) w5 (by omega) hJ5
      rw [HE2.out] at hy2
      clear hJ5 ht5 hy hcv HB4
      gi_wp2_with (refine wpListIn_yield_w (by rfl) _ _ _ rfl l _ rfl rfl _ hy2 ?_)
      rintro e w6 rfl hJ6 ht6
      refine ⟨_, rfl, ?_⟩
      have HB6 : Hid (Pieces w6 gt gp g t ps) := Lib.hid ⟨ht6.obj HB5.out.1 (fun hk => hk.elim h1.1 (by omega)), ht6.obj HB5.out.2.1 (fun hk => hk.elim h2.1 (by omega)), ht6.obj HB5.out.2.2 (fun hk => hk.elim h3.1 (by omega))⟩
      have HJ6 := Lib.hid hJ6
      clear hJ6 ht6 hy2 HB5
      gi_wp2
      exact ⟨⟨k + 1, by omega, rfl, HB6, HJ6⟩, by simp [intOf]; omega⟩
    · obtain rfl : k = n := by omega
      have q1 : ¬ ((k : Int) < k) := by omega
      gi_wp2
      go_end0
      exact ⟨⟨_, rfl⟩, by rw [← HN.out]; exact HJ.out⟩
end Go.Proofs.Ytcfbmbhkdicpfaa
namespace Go.Proofs.Ytcfbmbhkdicpfaa
open Go.RowKit
set_option maxRecDepth 100000

/-- Results: one that lies in memory, one. -/
theorem results_ct {P : Program} {fn : Func} {q u : Tmp} {ty : TypeId} (h : fn.results = #[.cell q ty, .tmp u]) (tmps : Array Value) (w : World) (g : Nat) (t : TypeId) (cs : Array Value) (fr : Nat × Nat) (d : TypeDesc)
    (hp : tmps.getD q undef = .pointer (some ⟨g, 0, none⟩)) (hg : w.heap[g]? = some (.cells cs t fr))
    (hu : P.underlying ty = some d) (hd : (match d with | .struct _ | .array _ _ => true | _ => false) = true) (hi : (P.info? ty).map (·.size) = some cs.size) :
    (results fn tmps).run P w = .ok (.tuple #[.agg cs, tmps.getD u undef]) w := by
  have hp' : tmps[q]?.getD undef = .pointer (some ⟨g, 0, none⟩) := by rw [← Array.getD_eq_getD_getElem?]; exact hp
  have hl := run_loadVar_row (P := P) w g t ty cs fr d hg hu hd hi
  simp only [results, h]
  simp [Result.andThen, asAddr, hp', hl]
def sumL (ps : List (List UInt8)) : Nat := (ps.map List.length).sum
theorem sumL_take (ps : List (List UInt8)) (j : Nat) (h : j < ps.length) : sumL (ps.take (j + 1)) = sumL (ps.take j) + (ps[j]).length := by
  rw [List.take_add_one, List.getElem?_eq_getElem h, sumL, sumL, List.map_append, List.sum_append]
  simp only [Option.toList_some, List.map_cons, List.map_nil, List.sum_cons, List.sum_nil, Nat.add_zero]
theorem sumL_le (ps : List (List UInt8)) : ∀ j, sumL (ps.take j) ≤ sumL ps := fun j => by
  have : sumL ps = sumL (ps.take j) + sumL (ps.drop j) := by rw [sumL, sumL, sumL, ← List.sum_append, ← List.map_append, List.take_append_drop]
  omega
theorem sumL_mem {ps : List (List UInt8)} {x : List UInt8} (h : x ∈ ps) : x.length ≤ sumL ps := by
  obtain ⟨i, hi, rfl⟩ := List.getElem_of_mem h
  have h1 := sumL_take ps i hi
  have h2 := sumL_le ps (i + 1)
  omega
theorem accV_piece (t : Nat) (ps : List (List UInt8)) (M : Nat) (hM : ∀ x ∈ ps, x.length ≤ M) (h4 : 4 ≤ M) (j : Nat) : (pieceAt t ps j).length ≤ M := by
  have hg : ∀ k, (ps.getD k []).length ≤ M := fun k => by
    rw [List.getD_eq_getElem?_getD]
    cases hk : ps[k]? with
    | none => simp
    | some x => exact hM x (List.mem_of_getElem? hk)
  unfold pieceAt
  split
  · simp; omega
  · split
    · rw [beB_length]; exact h4
    · exact hg _
theorem accV_length (t : Nat) (ps : List (List UInt8)) (M : Nat) (hM : ∀ x ∈ ps, x.length ≤ M) (h4 : 4 ≤ M) : ∀ j, (accV t ps j).length ≤ j * M
  | 0 => by simp [accV]
  | j + 1 => by
    have h := accV_length t ps M hM h4 j
    have hx := accV_piece t ps M hM h4 j
    rw [accV, List.length_append, Nat.add_mul]
    omega

set_option maxHeartbeats 4000000 in
theorem tagSum_any (w : World) (t : Nat) (ht : t ≤ 4) (g : Nat) (ps : List (List UInt8)) (hg : w.heap[g]? = some (.cells (strsV ps).toArray 9 (0, 0))) (hs : sumL ps ≤ 65536) (hps : ps.length ≤ 1000) :
    Calls Try.prog 85 #[.int .i64 (t : Int), .slice (some ⟨g, 0, none⟩) ps.length ps.length] w fun e w' => e = .returned (.tuple #[hv (tagV t ps), .int .i64 0]) ∧ Pure w w' := by
  obtain ⟨X, hXl, HZ⟩ := ex28
  have hgl : g < w.heap.size := (Array.getElem?_eq_some_iff.1 hg).1
  have HG := Lib.hid hg
  have HML : Hid (∀ x ∈ ps, x.length ≤ 65536) := Lib.hid fun x hx => Nat.le_trans (sumL_mem hx) hs
  have HSL : Hid (∀ j, sumL (ps.take j) ≤ 65536) := Lib.hid fun j => Nat.le_trans (sumL_le ps j) hs
  have htl : (tagV t ps).length = 32 := shaV_length _
  obtain ⟨n, hn⟩ : ∃ n, n = ps.length := ⟨_, rfl⟩
  have HN := Lib.hid hn
  have q1 : ¬ ((t : Int) < 0) := by omega
  have q2 : ¬ ((4 : Int) < (t : Int)) := by omega
  rw [← hn] at hps ⊢
  clear hg hs hn
  refine calls_of_wp_marks Try.func85 rfl ?_
  simp only [Try.ntmps85, List.size_toArray, List.length_cons, List.length_nil, Nat.reduceAdd, Nat.reduceSub, Array.replicate_succ, Array.replicate_zero, List.push_toArray, List.append_toArray, List.nil_append, List.cons_append]
  go_wp2_with (refine wpList_allocZ rfl 62 rfl X HZ.out ?_)
  intro g4 w1 e1 c1 t1 s1
  have l4 : w.heap.size ≤ g4 := by omega
  clear e1 s1
  have D4 := Lib.hid c1; have PT := Lib.hid t1; have DG := Lib.hid (t1.obj HG.out (fun e => e))
  clear c1 t1
  go_wp2
  go_loopw [6, 20] (fun s i wr => ∃ j : Nat, j ≤ n ∧ s = .int .i64 ((sumL (ps.take j) : Nat) : Int) ∧ i = .int .i64 (j : Int) ∧ wr = w1) (fun _ i _ => n - (intOf i).toNat)
  case atStart => exact ⟨0, Nat.zero_le _, by simp [sumL], rfl, rfl⟩
  case round =>
    obtain ⟨j, hj, rfl, rfl, rfl⟩ := hrel
    by_cases hlt : j < n
    · have hjl : j < ps.length := by have := HN.out; omega
      have q3 : (j : Int) < n := by omega
      have q0 : (0 : Int) ≤ j := by omega
      have ca := strs_cell (i := j) (x := ps[j]) (List.getElem?_eq_getElem hjl) DG.out
      have hst := sumL_take ps j hjl
      have hb1 := HSL.out (j + 1)
      have zx := bstr_size ps[j]
      generalize ps[j] = x at *
      obtain ⟨a, ha⟩ : ∃ a, a = sumL (ps.take j) := ⟨_, rfl⟩
      obtain ⟨b, hb⟩ : ∃ b, b = sumL (ps.take (j + 1)) := ⟨_, rfl⟩
      rw [← ha, ← hb] at hst
      rw [← hb] at hb1
      rw [← ha]
      obtain ⟨lx, hlx⟩ : ∃ lx, lx = x.length := ⟨_, rfl⟩
      rw [← hlx] at hst zx
      have i1 : IntKind.i64.wrap ((a : Int) + (lx : Int)) = (b : Int) := by rw [IntWalk.i64_in _ (by omega)]; omega
      have i2 : IntKind.i64.wrap ((j : Int) + 1) = ((j + 1 : Nat) : Int) := by rw [IntWalk.i64_in _ (by omega)]; omega
      have q4 : ¬ ((65536 : Int) < (b : Int)) := by omega
      have HB := Lib.hid hb
      clear hst hb ha hlx
      go_wp2
      exact ⟨⟨j + 1, by omega, by rw [HB.out], by first | rfl | trivial, by first | rfl | trivial⟩, by simp [intOf]; omega⟩
    · obtain rfl : j = n := by omega
      have q3 : ¬ ((j : Int) < j) := by omega
      go_wp2_with fail
      refine (NewOf_any _).mono ?_
      rintro e w2 ⟨gd, rfl, hd, lgd, t2⟩
      have lg4 := (Array.getElem?_eq_some_iff.1 D4.out).1
      have lgg := (Array.getElem?_eq_some_iff.1 DG.out).1
      have ngd4 : gd ≠ g4 := by omega
      have ngdg : gd ≠ g := by omega
      have ng4 : g4 ≠ g := by omega
      have hgd2 : gd < w2.heap.size := by obtain ⟨v, hv, _⟩ := hd 0; exact (Array.getElem?_eq_some_iff.1 hv.at_).1
      have lw : w.heap.size ≤ gd := by omega
      have D4 := Lib.hid (t2.obj D4.out (fun e => e)); have DG := Lib.hid (t2.obj DG.out (fun e => e)); have PT := Lib.hid (PT.out.pure t2); have HD := Lib.hid hd
      clear hd t2 lgd lg4 lgg
      have n49 : g4 ≠ w2.heap.size := by have := (Array.getElem?_eq_some_iff.1 D4.out).1; omega
      have n9g : g ≠ w2.heap.size := by have := (Array.getElem?_eq_some_iff.1 DG.out).1; omega
      have hA : Pure w2 (w2.alloc (.cells #[.pointer (some ⟨gd, 0, none⟩)] 197)) := (Turn.refl _ _).alloc _
      have D9 : Hid ((w2.alloc (.cells #[.pointer (some ⟨gd, 0, none⟩)] 197)).heap[w2.heap.size]? = some (.cells #[.pointer (some ⟨gd, 0, none⟩)] 197 (0, 0))) := Lib.hid (heap_alloc_new _ _)
      have D4 := Lib.hid (hA.obj D4.out (fun e => e)); have DG := Lib.hid (hA.obj DG.out (fun e => e)); have PT := Lib.hid (PT.out.pure hA)
      have HD : Hid (∀ B, DigOf (w2.alloc (.cells #[.pointer (some ⟨gd, 0, none⟩)] 197)) gd B []) := Lib.hid fun B => (HD.out B).turn hA (fun e => e) (fun _ _ e => e)
      have n9 : gd ≠ w2.heap.size := by omega
      clear hA
      go_wp2_with fail
      generalize w2.alloc (.cells #[.pointer (some ⟨gd, 0, none⟩)] 197) = w3 at *
      generalize w2.heap.size = g9 at *
      have hgd3 : gd < w3.heap.size := by obtain ⟨v, hv, _⟩ := HD.out 0; exact (Array.getElem?_eq_some_iff.1 hv.at_).1
      have hpc := pieces_any w3 g t ps DG.out
      rw [← HN.out] at hpc
      refine hpc.mono ?_
      rintro e w4 ⟨gt, gp, rfl, hpp, lt1, lp1, lt2, lp2, t4⟩
      have D4 := Lib.hid (t4.obj D4.out (fun e => e)); have DG := Lib.hid (t4.obj DG.out (fun e => e)); have D9 := Lib.hid (t4.obj D9.out (fun e => e)); have PT := Lib.hid (PT.out.pure t4); have HP := Lib.hid hpp
      have HD : Hid (∀ B, DigOf w4 gd B []) := Lib.hid fun B => (HD.out B).turn t4 (fun e => e) (fun _ _ e => e)
      clear hpc t4 hpp
      go_wp2_with fail
      have hgd4 : gd < w4.heap.size := by obtain ⟨v, hv, _⟩ := HD.out 0; exact (Array.getElem?_eq_some_iff.1 hv.at_).1
      have lg94 := (Array.getElem?_eq_some_iff.1 D9.out).1
      have lg44 := (Array.getElem?_eq_some_iff.1 D4.out).1
      have lgg4 := (Array.getElem?_eq_some_iff.1 DG.out).1
      have lw4 : w.heap.size ≤ w4.heap.size := PT.out.size
      have ngt : gt ≠ gd := by omega
      have ngp : gp ≠ gd := by omega
      obtain ⟨B, hB⟩ : ∃ B, B = w4.heap.size + 2 := ⟨_, rfl⟩
      have hacc := fun j => accV_length t ps 65536 HML.out (by omega) j
      have HACC := Lib.hid hacc
      clear hacc q1 q2 q3 hlt hj
      refine wp_rangeFuncU (gf := 148) (lb := #[.pointer (some ⟨gt, 0, none⟩), .pointer (some ⟨gp, 0, none⟩)]) rfl enters_pieces (fun j => #[.string (bstr (pieceAt t ps j))]) (fun _ => rfl) (1 + 2 * ps.length) (fun k => k = gd ∨ B ≤ k) (fun _ => False) (fun k e => by rcases e with e | e <;> omega) (fun _ e => e.elim)
        (fun j W => Hid (Pure w W) ∧ Hid (DigOf W gd B (accV t ps j)) ∧ Hid (W.heap[g9]? = some (.cells #[.pointer (some ⟨gd, 0, none⟩)] 197 (0, 0))) ∧ Hid (W.heap[g4]? = some (.cells X.toArray 62 (0, 0)))) ?_ ?_ ?_ ?_ ?_
      · rintro j W W' ⟨h1, h2, h3, h4⟩ ht
        exact ⟨Lib.hid (h1.out.trans ht fun q hq e => by rcases e with e | e; exact e.elim; omega), Lib.hid (h2.out.turn ht (fun e => by rcases e with e | e; exact e.elim; omega) (fun k hk e => by rcases e with e | e; exact e.elim; omega)), Lib.hid (ht.obj h3.out (fun e => by rcases e with e | e; exact e.elim; omega)), Lib.hid (ht.obj h4.out (fun e => by rcases e with e | e; exact e.elim; omega))⟩
      · intro l J W1 hl hP1 stab hround hJ0
        exact pieces_it l w4.heap.size HML.out (by have := HN.out; omega) (fun k => k = gd ∨ B ≤ k) ⟨fun e => by rcases e with e | e <;> omega, lt2⟩ ⟨fun e => by rcases e with e | e <;> omega, lp2⟩ ⟨fun e => by rcases e with e | e <;> omega, lgg4⟩ J W1 ⟨hP1.obj HP.out.1 (fun e => e), hP1.obj HP.out.2.1 (fun e => e), hP1.obj HP.out.2.2 (fun e => e)⟩ stab hround hJ0
      · exact ⟨PT, Lib.hid (HD.out _), D9, D4⟩
      · intro l j W hl hl2 hj hI
        obtain ⟨h1, h2, h3, h4⟩ := hI
        simp only [zip_one, List.setIfInBounds_toArray, List.set_cons_succ, List.set_cons_zero]
        have hac := HACC.out j
        have hpl := accV_piece t ps 65536 HML.out (by omega) j
        have hjn : j ≤ 2001 := by have := HN.out; omega
        have hbig : (accV t ps j).length + (pieceAt t ps j).length ≤ 140737488355000 := by have := Nat.mul_le_mul_right 65536 hjn; omega
        have hsucc : accV t ps (j + 1) = accV t ps j ++ pieceAt t ps j := rfl
        generalize pieceAt t ps j = x at *
        generalize accV t ps j = acc at *
        have HSU := Lib.hid hsucc
        clear hac hpl hjn hsucc
        refine wpIn_region_round (Or.inr ⟨l, rfl⟩) rfl ?_
        go_wp2_with fail
        refine ⟨Turn.refl _ _, fun W2 ht2 => ?_⟩
        have E9 := Lib.hid (ht2.obj h3.out (show ¬ (g9 = l) by omega))
        have E4 := Lib.hid (ht2.obj h4.out (show ¬ (g4 = l) by omega))
        have ED := Lib.hid (h2.out.turn ht2 (show ¬ (gd = l) by omega) (fun k hk e => by omega))
        have EP : Hid (Pure w W2) := Lib.hid (h1.out.trans ht2 fun q hq e => by omega)
        have hB2 : B ≤ W2.heap.size := by have := ht2.size; omega
        clear h1 h2 h3 h4 ht2
        refine wpIn_block ?_
        refine wpIn_region_round (Or.inr ⟨l, rfl⟩) rfl ?_
        obtain ⟨c9, f9⟩ := cell_one E9.out
        go_wp2_with fail
        refine (WriteOf_any W2 gd B acc x ED.out hB2 hbig).mono ?_
        rintro e W3 ⟨rfl, hd3, ht3⟩
        go_wp2_with fail
        exact ⟨rfl, ht3, Lib.hid (EP.out.trans ht3 fun q hq e => by rcases e with e | e <;> omega), Lib.hid (by rw [HSU.out]; exact hd3), Lib.hid (ht3.obj E9.out (fun e => by rcases e with e | e <;> omega)), Lib.hid (ht3.obj E4.out (fun e => by rcases e with e | e <;> omega))⟩
      · intro D W hD hI hDD
        subst hD
        obtain ⟨h1, h2, h3, h4⟩ := hI
        rw [accV_full] at h2
        have hTl : (tagIn t ps).length ≤ 140737488355000 := by
          have := HACC.out (1 + 2 * ps.length)
          rw [accV_full] at this
          have h9 := HN.out
          have := Nat.mul_le_mul_right 65536 (show 1 + 2 * ps.length ≤ 2001 by omega)
          omega
        have hso := fun W => SumOf_any W gd B (tagIn t ps)
        rw [show shaV (tagIn t ps) = tagV t ps from rfl] at hso
        generalize tagIn t ps = TI at *
        obtain ⟨R, hR⟩ : ∃ R, R = tagV t ps := ⟨_, rfl⟩
        rw [← hR] at hso htl
        have HR := Lib.hid hR
        clear hR
        have HTL := Lib.hid hTl
        have HSO := Lib.hid hso
        clear hTl hso
        simp only [Exit.inBlock, Exit.then]
        go_step
        obtain ⟨c9, f9⟩ := cell_one h3.out
        go_wp2_with fail
        have lD : w4.heap.size ≠ g4 := by omega
        refine (HSO.out W h2.out HTL.out).mono ?_
        rintro e W5 ⟨rfl, t5⟩
        have E4 := Lib.hid (t5.obj h4.out (fun e => e)); have ED := Lib.hid (t5.obj hDD (fun e => e)); have EP := Lib.hid (h1.out.pure t5)
        clear h1 h2 h3 h4 t5 hDD c9 f9 HSO HTL
        go_wp2_with (refine wpList_store_blk rfl 62 _ _ rfl g4 _ (u8s R) _ rfl rfl E4.out (size28 hXl htl) (info28_l htl) (u8s_one _) ?_)
        intro W6 d6 t6 s6
        clear s6
        have E4 := Lib.hid d6; have ED := Lib.hid (t6.obj ED.out lD); have EP := Lib.hid (EP.out.newer t6 l4)
        clear d6 t6
        go_wp2_with fail
        have pt := putObj_turn W6 w4.heap.size (.deferred none)
        exact marks_ret (v := .tuple #[hv R, .int .i64 0]) ED.out (results_ct Try.results85 _ _ g4 _ _ _ _ rfl (pt.obj E4.out (Ne.symm lD)) Try.underlying62 rfl (info28_a htl)) ⟨by rw [HR.out], EP.out.trans pt fun q hq e => by omega⟩
end Go.Proofs.Ytcfbmbhkdicpfaa
