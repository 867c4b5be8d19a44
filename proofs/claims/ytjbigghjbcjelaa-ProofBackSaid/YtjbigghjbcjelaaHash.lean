/- Hashes that are lent: in a place with marked room behind them; steps of regions that draw. -/
import Derived.Test.YtjbigghjbcjelaaChk
namespace Go.Proofs.Ytjbigghjbcjelaa
open Go.RowKit

theorem hrow_length {hs : List (List UInt8)} (h : ∀ x ∈ hs, x.length = 32) : (hrow hs).length = hs.length * 32 := by
  induction hs with
  | nil => rfl
  | cons x t ih =>
    have h1 := h x (by simp)
    have h2 := ih fun y hy => h y (by simp [hy])
    simp only [hrow, List.flatMap_cons, List.length_append, List.length_cons] at h2 ⊢
    rw [u8s_length, h1, h2]
    omega
theorem hrow_at {w : World} {b : Nat} : ∀ (hs : List (List UInt8)) (o j : Nat) (x : List UInt8), hs[j]? = some x → w.rangeAt b o (hrow hs) → (∀ y ∈ hs, y.length = 32) → w.rangeAt b (o + j * 32) (u8s x)
  | y :: t, o, 0, x, hj, hr, h => fun k u hk => by
    simp at hj
    subst hj
    have := hr k u (by simp only [hrow, List.flatMap_cons]; rw [List.getElem?_append_left (List.getElem?_eq_some_iff.1 hk).1]; exact hk)
    simpa using this
  | y :: t, o, j + 1, x, hj, hr, h => by
    have hy : y.length = 32 := h y (by simp)
    have h1 : w.rangeAt b (o + 32) (hrow t) := fun k u hk => by
      rw [Nat.add_assoc]
      refine hr (32 + k) u ?_
      simp only [hrow, List.flatMap_cons]
      rw [List.getElem?_append_right (by rw [u8s_length, hy]; omega), u8s_length, hy, show 32 + k - 32 = k from by omega]
      exact hk
    have := hrow_at t (o + 32) j x (by simpa using hj) h1 fun z hz => h z (by simp [hz])
    rwa [show o + (j + 1) * 32 = o + 32 + j * 32 from by omega]
theorem hrow_left {w : World} {b o : Nat} {p q : List (List UInt8)} (h : w.rangeAt b o (hrow (p ++ q))) : w.rangeAt b o (hrow p) := fun j u hj =>
  h j u (by rw [hrow_app, List.getElem?_append_left (List.getElem?_eq_some_iff.1 hj).1]; exact hj)
theorem hrow_one (hs : List (List UInt8)) : ∀ u ∈ hrow hs, u.oneCell' = true := by
  intro u hu
  obtain ⟨x, _, hx⟩ := List.mem_flatMap.1 hu
  exact u8s_one x u hx
theorem Hashs.src {w : World} {v : Value} {hs : List (List UInt8)} (h : Hashs w v hs) : Src Try.prog 32 41 v hs.length (hrow hs) w := by
  obtain ⟨ao, cap, rfl, h2, h3, h4⟩ := h
  by_cases hne : hs = []
  · subst hne
    cases ao with
    | none => exact Src.ofNil w Try.underlying41 cap
    | some a => exact Src.ofSlice w Try.underlying41 a 0 cap [] rfl (fun j u hu => by simp at hu) (by simp)
  · obtain ⟨b, o, rfl, hr⟩ := h3 hne
    refine Src.ofSlice w Try.underlying41 _ _ _ _ (hrow_length h4) (fun j u hu => ?_) (hrow_one hs)
    rw [Addr.add_mid]
    exact hr j u hu
theorem Hashs.pure {w w' : World} {v : Value} {hs : List (List UInt8)} (h : Hashs w v hs) (t : Pure w w') : Hashs w' v hs := h.turn t fun _ _ _ e => e
/-- A row that is owned. -/
theorem Hashs.own {w : World} {base : Nat} {v : Value} {n : Nat} {hs : List (List UInt8)} (h : w.ownsRow base 28 32 v n (hrow hs)) (h4 : ∀ x ∈ hs, x.length = 32) : Hashs w v hs := by
  have hn : n = hs.length := by have := h.1; rw [hrow_length h4] at this; omega
  subst hn
  rcases h.2 with ⟨hv, h0⟩ | ⟨g, cap, cur, hv, _, _, hnc, _⟩
  · have : hs = [] := List.eq_nil_of_length_eq_zero h0
    subst this
    exact ⟨none, 0, by rw [hv]; rfl, Nat.le_refl _, fun e => absurd rfl e, h4⟩
  · refine ⟨_, cap, hv, hnc, fun _ => ⟨g, 0, rfl, fun j u hj => ?_⟩, h4⟩
    have := h.cells (g := g) (by rw [hv]; rfl) j u hj
    rwa [Addr.add_mid] at this

/-- A new variable of several cells, in a region that draws its order. -/
theorem step_allocZ {P : Program} {ops : Array Oper} {o : Oper} {a : Act} {w : World} {K : Act → World → Prop} {Q : Exit → Act → World → Prop} {E : Prop} (hgd : o.guard = none) (t : TypeId) (ho : o.op = .alloc t) (cs : List Value) (hz : (P.info? t).bind (·.zero) = some (.agg cs.toArray))
    (h : ∀ g w', g = w.heap.size → w'.heap[g]? = some (.cells cs.toArray t (0, 0)) → Pure w w' → w'.heap.size = g + 1 → K (a.put o.dst (.pointer (some ⟨g, 0, none⟩))) w') : if Region.wanted o (yielded ops a.tmps) = true then Oper.wp P o a w K Q else E := by
  rw [if_pos (by simp [Region.wanted, hgd])]
  obtain ⟨i, hi, hzi⟩ := Option.bind_eq_some_iff.1 hz
  have := h w.heap.size (w.alloc (.cells cs.toArray t)) rfl (heap_alloc_new _ _) ((Turn.refl _ _).alloc _) (by simp)
  unfold Oper.wp execOp
  simp [ho, Instr.alloc, zeroValue, typeInfo, hi, hzi, newVar, newRow, newObj, Result.andThen, Value.cells]
  exact this
/-- A whole block is written, in a region that draws its order. -/
theorem step_store_blk {P : Program} {ops : Array Oper} {op : Oper} {a : Act} {w : World} {K : Act → World → Prop} {Q : Exit → Act → World → Prop} {E : Prop} (hgd : op.guard = none) (ty : TypeId) (x y : Operand) (ho : op.op = .store ty x y)
    (g : Nat) (old : Array Value) (cs : List Value) (T : TypeId) (hx : a.eval x = .pointer (some ⟨g, 0, none⟩)) (hy : a.eval y = .agg cs.toArray) (hg : w.heap[g]? = some (.cells old T (0, 0))) (hs : old.size = cs.length)
    (hi : (P.info? ty).map (·.size) = some cs.length) (h1 : ∀ v ∈ cs, v.oneCell' = true)
    (h : ∀ w', w'.heap[g]? = some (.cells cs.toArray T (0, 0)) → Turn (fun k => k = g) w w' → w'.heap.size = w.heap.size → K (a.put op.dst undef) w') : if Region.wanted op (yielded ops a.tmps) = true then Oper.wp P op a w K Q else E := by
  rw [if_pos (by simp [Region.wanted, hgd])]
  refine wp_store_mid ty x y ho g 0 cs.toArray hx hy ?_ (by simpa using hi) (all_oneCell_toArray h1) ?_
  · intro j hj
    rw [Nat.zero_add, cell_of_row w g j old T (0, 0) hg, frozen_of_row w g j old T hg]
    exact ⟨by simp at hj ⊢; omega, rfl⟩
  · have hw := setCells_heap g cs 0 w old T (0, 0) hg (by omega)
    have := h (w.setCells g 0 cs) (by rw [hw]; simp [List.drop_eq_nil_of_le, hs]) ⟨World.os_setCells _ _ _ _, setCells_tape _ _ _ _, World.output_setCells _ _ _ _, by rw [setCells_size]; exact Nat.le_refl _, fun k hk hn => World.heap_setCells_other w g _ _ hk hn⟩ (setCells_size _ _ _ _)
    simpa using this
/-- A region that makes one new variable, and what follows it once. -/
theorem wp_region_cut1 {P : Program} {id : Nat} {ops : Array Oper} {d : Bool} {Q : Exit → Act → World → Prop} {a : Act} {w : World} {R : Nat → World → Prop}
    (h : ∃ F : Nat → Act, (Code.region id ops d).wp P (fun e a' w' => e = .normal ∧ ∃ g, a' = F g ∧ R g w') a w ∧ ∀ g w', R g w' → Q .normal (F g) w') : (Code.region id ops d).wp P Q a w := by
  obtain ⟨F, h1, h2⟩ := h
  refine Code.wp_mono (fun e a' w' hh => ?_) h1
  obtain ⟨rfl, g, rfl, hr⟩ := hh
  exact h2 g w' hr
/-- A region that makes two new variables, and what follows it once. -/
theorem wp_region_cut2 {P : Program} {id : Nat} {ops : Array Oper} {d : Bool} {Q : Exit → Act → World → Prop} {a : Act} {w : World} {R : Nat → Nat → World → Prop}
    (h : ∃ F : Nat → Nat → Act, (Code.region id ops d).wp P (fun e a' w' => e = .normal ∧ ∃ g g', a' = F g g' ∧ R g g' w') a w ∧ ∀ g g' w', R g g' w' → Q .normal (F g g') w') : (Code.region id ops d).wp P Q a w := by
  obtain ⟨F, h1, h2⟩ := h
  refine Code.wp_mono (fun e a' w' hh => ?_) h1
  obtain ⟨rfl, g, g', rfl, hr⟩ := hh
  exact h2 g g' w' hr

/-- An operation that is wanted (its guard is met). -/
theorem wpList_wanted {P : Program} {ops : Array Oper} {rest : List Oper} {o : Oper} {a : Act} {w : World} {Q : Exit → Act → World → Prop} (hw : Region.wanted o (yielded ops a.tmps) = true)
    (h : ∀ K : Act → World → Prop, (∀ a w, wpList P ops Q rest a w → K a w) → o.wp P a w K Q) : wpList P ops Q (o :: rest) a w := wpList_step fun K hK => by rw [if_pos hw]; exact h K hK
theorem wpList_load_mid_w {P : Program} {ops : Array Oper} {rest : List Oper} {op : Oper} {a : Act} {w : World} {Q : Exit → Act → World → Prop} (hw : Region.wanted op (yielded ops a.tmps) = true) (ty : TypeId) (x : Operand) (ho : op.op = .load ty x)
    (b o : Nat) (hx : a.eval x = .pointer (some ⟨b, o, none⟩)) (cs : List Value) (d : TypeDesc) (hc : w.rangeAt b o cs)
    (hu : P.underlying ty = some d) (hd : d.isRow = true) (hi : (P.info? ty).map (·.size) = some cs.length)
    (h : wpList P ops Q rest (a.put op.dst (.agg cs.toArray)) w) : wpList P ops Q (op :: rest) a w :=
  wpList_wanted hw fun _ hK => wp_load_mid ty x ho b o hx cs d hc hu hd hi (hK _ _ h)

def roomH : List UInt8 := 77 :: List.replicate 31 0
theorem roomH_length : roomH.length = 32 := by decide
theorem built77 : Try.prog.built 28 [(0, .int .u8 77)] = some (u8s roomH).toArray := by kernel_rfl
theorem wpList_build77 {ops : Array Oper} {rest : List Oper} {o : Oper} {a : Act} {w : World} {Q : Exit → Act → World → Prop} (hg : Region.wanted o (yielded ops a.tmps) = true) (ho : o.op = .build 28 #[(0, .const (.int .u8 77))])
    (h : wpList Try.prog ops Q rest (a.put o.dst (hv roomH)) w) : wpList Try.prog ops Q (o :: rest) a w := by
  refine wpList_wanted hg fun _ hK => ?_
  have hb : Try.prog.built 28 ((#[(0, Operand.const (.int .u8 77))] : Array (Nat × Operand)).map fun (i, x) => (i, a.eval x)).toList = some (u8s roomH).toArray := by
    rw [← built77]; simp [Act.eval]
  refine wp_build 28 _ ho (by rw [hb]; rfl) ?_
  rw [hb]
  exact hK _ _ h
theorem fill77 : Instr.fill (fun i => some (i * 32, 32)) ((Array.range (2 * 32)).map ((Value.agg (u8s (List.replicate 32 0)).toArray).cells[· % (Value.agg (u8s (List.replicate 32 0)).toArray).cells.size]!)) [(0, hv roomH), (1, hv roomH)] = some (hrow [roomH, roomH]).toArray := by kernel_rfl
/-- A row of two marked hashes. -/
theorem wpList_buildRoom {ops : Array Oper} {rest : List Oper} {o : Oper} {a : Act} {w : World} {Q : Exit → Act → World → Prop} (hg : o.guard = none) (x y : Operand) (ho : o.op = .buildSlice 41 2 #[(0, x), (1, y)])
    (hx : a.eval x = hv roomH) (hy : a.eval y = hv roomH)
    (h : wpList Try.prog ops Q rest (a.put o.dst (.slice (some ⟨w.heap.size, 0, none⟩) 2 2)) (w.alloc (.cells (hrow [roomH, roomH]).toArray 28))) : wpList Try.prog ops Q (o :: rest) a w := by
  have h28 := all28
  cases hi : Try.prog.info? 28 with
  | none => rw [hi] at h28; simp at h28
  | some i =>
    rw [hi] at h28
    simp only [Option.map_some, Option.some.injEq, Prod.mk.injEq] at h28
    obtain ⟨hz, hs, hb⟩ := h28
    refine wpList_buildSlice hg 41 28 2 #[(0, x), (1, y)] ho (hrow [roomH, roomH]).toArray i _ Try.underlying41 hi hz (by rw [hs]; omega) (by rw [hs]; omega) ?_ h
    rw [hs]
    simpa [hx, hy] using fill77

/-- Hashes that are lent. -/
def LentH (w : World) (v : Value) (l : List (List UInt8)) : Prop :=
  ∃ b c, v = .slice (some ⟨b, 0, none⟩) l.length c ∧ l.length + 2 ≤ c ∧ w.rangeAt b 0 (hrow (l ++ [roomH, roomH])) ∧ ∀ h ∈ l, h.length = 32
theorem LentH.pure {w w' : World} {v : Value} {l : List (List UInt8)} (h : LentH w v l) (t : Pure w w') : LentH w' v l := by
  obtain ⟨b, c, h1, h2, h3, h4⟩ := h
  exact ⟨b, c, h1, h2, t.range h3 (fun e => e), h4⟩
theorem LentH.hashs {w : World} {v : Value} {l : List (List UInt8)} (h : LentH w v l) : Hashs w v l := by
  obtain ⟨b, c, rfl, h2, h3, h4⟩ := h
  exact ⟨_, c, rfl, by omega, fun _ => ⟨b, 0, rfl, hrow_left h3⟩, h4⟩

set_option maxHeartbeats 1000000 in
theorem CopyHashs_any (w : World) (v : Value) (l : List (List UInt8)) (h : Hashs w v l) (hlen : l.length ≤ 4398046510976) :
    Calls Try.prog 47 #[v] w fun e w' => ∃ r, e = .returned r ∧ w'.ownsRow 0 28 32 r l.length (hrow l) ∧ (∀ k, r.ownBlock = some k → w.heap.size ≤ k) ∧ Pure w w' := by
  obtain ⟨i28, z28, HI28, hz28, hsz, hby, hzs⟩ := parts28
  have hi := HI28.out
  have hp : Pure w (w.alloc (.cells #[] 28)) := (Turn.refl _ _).alloc _
  have hs := (h.pure hp).src
  have HS := Lib.hid hs; clear hs
  have ho : (w.alloc (.cells #[] 28)).ownsRow 0 28 32 (.slice (some ⟨w.heap.size, 0, none⟩) 0 0) 0 [] :=
    ⟨rfl, .inr ⟨w.heap.size, 0, #[], rfl, Nat.zero_le _, heap_alloc_new _ _, Nat.le_refl _, by decide, rfl, rfl⟩⟩
  have HO := Lib.hid ho; clear ho
  obtain ⟨av, cv, rfl, _, _⟩ := h
  go_enter Try.func47, Try.ntmps47
  go_wp2_with (at_builtin; refine wpList_append_turn _ rfl _ _ 41 41 28 rfl i28 _ 32 32 Try.underlying41 hi hz28 hsz hby hzs _ _ _ rfl HO.out _ rfl l.length _ HS.out (by omega) (by omega) ?_)
  intro ao c w2 ho2 ht2 hb2
  have hT : Pure w w2 := hp.trans ht2 fun i hi e => by have : w.heap.size = i := Option.some.inj e; omega
  have hB : ∀ k, (Value.slice ao l.length c).ownBlock = some k → w.heap.size ≤ k := by
    intro k hk
    rcases hb2.out with e | e
    · have e2 := hk.symm.trans e
      have : k = w.heap.size := Option.some.inj e2
      omega
    · have e2 := hk.symm.trans e
      have := Option.some.inj e2
      omega
  have HT := Lib.hid hT; clear hT ht2 hb2
  have HB := Lib.hid hB; clear hB
  have HO2 := Lib.hid ho2; clear ho2
  go_wp2
  go_ret
  exact ⟨_, rfl, HO2.out, HB.out, HT.out⟩

set_option maxHeartbeats 1000000 in
theorem LendHashs_any (w : World) (v : Value) (l : List (List UInt8)) (h : Hashs w v l) (hlen : l.length ≤ 4398046510976) :
    Calls Try.prog 26 #[v] w fun e w' => ∃ r, e = .returned r ∧ LentH w' r l ∧ Pure w w' := by
  obtain ⟨i28, z28, HI28, hz28, hsz, hby, hzs⟩ := parts28
  have hi := HI28.out
  have hh := h
  obtain ⟨ao0, cap0, rfl, hcap0, _, h4⟩ := hh
  have H4 := Lib.hid h4; clear h4
  go_enter Try.func26, Try.ntmps26
  go_wp2_with fail
  refine (CopyHashs_any _ _ _ h hlen).mono ?_
  rintro e w1 ⟨r, rfl, ho1, hb1, ht1⟩
  have hA : Pure w1 (w1.alloc (.cells (hrow [roomH, roomH]).toArray 28)) := (Turn.refl _ _).alloc _
  have ho2 := hA.own ho1 (fun _ _ e => e)
  have hs : Src Try.prog 32 41 (.slice (some ⟨w1.heap.size, 0, none⟩) 2 2) 2 (hrow [roomH, roomH]) (w1.alloc (.cells (hrow [roomH, roomH]).toArray 28)) :=
    Src.ofSlice _ Try.underlying41 _ _ _ _ (by decide) (World.news_of_block (heap_alloc_new w1 _)) (hrow_one _)
  have HS := Lib.hid hs; clear hs
  have HO := Lib.hid ho2; clear ho2 ho1
  have HA := Lib.hid (ht1.pure hA)
  have HB := Lib.hid hb1; clear hb1
  have HT := Lib.hid ht1; clear ht1 hA
  clear h
  go_wp2_with (first | (refine wpList_build77 (by rfl) rfl ?_) | (refine wpList_buildRoom rfl _ _ rfl rfl rfl ?_) | (at_builtin; refine wpList_append_turn _ rfl _ _ 41 41 28 rfl i28 _ 32 32 Try.underlying41 hi hz28 hsz hby hzs _ _ _ rfl HO.out _ rfl 2 _ HS.out (by omega) (by omega) ?_))
  intro ao c w2 ho2 ht2 hb2
  have hT : Pure w w2 := HA.out.trans ht2 fun i hi e => by have := HB.out i e; omega
  rw [← hrow_app] at ho2
  have hgc : ∃ b, ao = some ⟨b, 0, none⟩ ∧ l.length + 2 ≤ c := by
    rcases ho2.2 with ⟨e, h0⟩ | ⟨g, cap, cur, e, _, _, hn, _⟩
    · omega
    · simp only [Value.slice.injEq] at e
      obtain ⟨rfl, _, rfl⟩ := e
      exact ⟨g, rfl, hn⟩
  obtain ⟨b, rfl, hc⟩ := hgc
  have hrg : w2.rangeAt b 0 (hrow (l ++ [roomH, roomH])) := by
    intro j u hj
    have := ho2.cells (g := b) rfl j u hj
    rwa [Addr.add_mid] at this
  have HR := Lib.hid hrg; clear hrg ho2 ht2 hb2
  have HT2 := Lib.hid hT; clear hT
  have q1 : (l.length : Int) ≤ c := by omega
  have qc : ¬ c = 0 := by omega
  have q0 : (0 : Int) ≤ (l.length : Int) := by omega
  go_wp2
  go_ret
  exact ⟨_, rfl, ⟨b, c, rfl, hc, HR.out, H4.out⟩, HT2.out⟩

set_option maxHeartbeats 1000000 in
theorem SameHashs_any (w : World) (v u : Value) (l : List (List UInt8)) (h : Hashs w v l) (k : Hashs w u l) (hlen : l.length ≤ 4398046510976) :
    Calls Try.prog 30 #[v, u] w fun e w' => e = .returned (.bool true) ∧ Pure w w' := by
  obtain ⟨ao, c, rfl, h2, h3, h4⟩ := h
  obtain ⟨bo, d, rfl, k2, k3, _⟩ := k
  have H3 := Lib.hid h3; have K3 := Lib.hid k3; have H4 := Lib.hid h4; clear h3 k3 h4
  have hnn : ((l.length : Int) != (l.length : Int)) = false := by simp
  have hu28 := Try.underlying28
  go_enter Try.func30, Try.ntmps30
  go_wp2
  go_loopw [4, 5] (fun _ i wr => ∃ j : Nat, j ≤ l.length ∧ i = .int .i64 (j : Int) ∧ Hid (Pure w wr)) (fun _ i _ => l.length - (intOf i).toNat)
  case atStart => exact ⟨0, by omega, rfl, Lib.hid (Turn.refl _ _)⟩
  case round =>
    obtain ⟨j, hj, rfl, HP⟩ := hrel
    by_cases hlt : j < l.length
    · have hne : l ≠ [] := fun e => by rw [e] at hlt; simp at hlt
      obtain ⟨b, o, rfl, hr⟩ := H3.out hne
      obtain ⟨b2, o2, rfl, kr⟩ := K3.out hne
      have c1 := HP.out.range (hrow_at l o j l[j] (by simp) hr H4.out) (fun e => e)
      have c2 := HP.out.range (hrow_at l o2 j l[j] (by simp) kr H4.out) (fun e => e)
      have hx : (l[j]).length = 32 := H4.out _ (by simp)
      generalize l[j] = x at c1 c2 hx
      have C1 := Lib.hid c1; have C2 := Lib.hid c2; clear c1 c2
      have nq : ∀ V : World, (binOp .neq 28 (hv x) (hv x)).run Try.prog V = .ok (.bool false) V := fun V => by rw [neq28 V hx hx, beq_self_eq_true]; rfl
      have q1 : (j : Int) < l.length := by omega
      have q0 : (0 : Int) ≤ j := by omega
      clear hr kr
      go_wp2_with fail
      refine wp_region_held_drew (S := fun w' => w'.rangeAt b (o + j * 32) (u8s x) ∧ w'.rangeAt b2 (o2 + j * 32) (u8s x)) (by kernel_rfl) (show _ ∧ _ from ⟨C1.out, C2.out⟩) (fun hHeld => ?_)
      have HS := Lib.hid hHeld
      have HP2 := Lib.hid HP.out.drew
      clear hHeld C1 C2 HP
      generalize wr.drew = w2 at *
      refine wpAnyH_take (i := 0) (v := .slice (some ⟨b, o, none⟩) l.length c) rfl (by kernel_rfl) (by kernel_rfl) (by kernel_rfl) (fun _ _ _ h => h) (Or.inl ⟨by rfl, fun w hSw => by go_simp⟩) HS.out ?_
      simp only [List.getElem_toArray, List.getElem_cons_zero, Act.put, List.setIfInBounds_toArray, List.set_cons_zero, List.set_cons_succ]
      refine wpAnyH_take (i := 1) (v := .int .i64 (j : Int)) rfl (by kernel_rfl) (by kernel_rfl) (by kernel_rfl) (fun _ _ _ h => h) (Or.inl ⟨by rfl, fun w hSw => by go_simp⟩) HS.out ?_
      simp only [List.getElem_toArray, List.getElem_cons_succ, List.getElem_cons_zero, Act.put, List.setIfInBounds_toArray, List.set_cons_zero, List.set_cons_succ]
      refine wpAnyH_take (i := 2) (v := .pointer (some ⟨b, o + j * 32, none⟩)) rfl (by kernel_rfl) (by kernel_rfl) (by kernel_rfl) (fun _ _ _ h => h) (Or.inl ⟨by rfl, fun w hSw => by go_simp⟩) HS.out ?_
      simp only [List.getElem_toArray, List.getElem_cons_succ, List.getElem_cons_zero, Act.put, List.setIfInBounds_toArray, List.set_cons_zero, List.set_cons_succ]
      refine wpAnyH_take (i := 3) (v := hv x) rfl (by kernel_rfl) (by kernel_rfl) (by kernel_rfl) (fun _ _ _ h => h) (yieldsIf_load_mid (by rfl) 28 _ rfl b (o + j * 32) rfl (u8s x) _ (fun w h => h.1) hu28 rfl (info28_l hx)) HS.out ?_
      simp only [List.getElem_toArray, List.getElem_cons_succ, List.getElem_cons_zero, Act.put, List.setIfInBounds_toArray, List.set_cons_zero, List.set_cons_succ]
      refine wpAnyH_take (i := 4) (v := .slice (some ⟨b2, o2, none⟩) l.length d) rfl (by kernel_rfl) (by kernel_rfl) (by kernel_rfl) (fun _ _ _ h => h) (Or.inl ⟨by rfl, fun w hSw => by go_simp⟩) HS.out ?_
      simp only [List.getElem_toArray, List.getElem_cons_succ, List.getElem_cons_zero, Act.put, List.setIfInBounds_toArray, List.set_cons_zero, List.set_cons_succ]
      refine wpAnyH_take (i := 5) (v := .int .i64 (j : Int)) rfl (by kernel_rfl) (by kernel_rfl) (by kernel_rfl) (fun _ _ _ h => h) (Or.inl ⟨by rfl, fun w hSw => by go_simp⟩) HS.out ?_
      simp only [List.getElem_toArray, List.getElem_cons_succ, List.getElem_cons_zero, Act.put, List.setIfInBounds_toArray, List.set_cons_zero, List.set_cons_succ]
      refine wpAnyH_take (i := 6) (v := .pointer (some ⟨b2, o2 + j * 32, none⟩)) rfl (by kernel_rfl) (by kernel_rfl) (by kernel_rfl) (fun _ _ _ h => h) (Or.inl ⟨by rfl, fun w hSw => by go_simp⟩) HS.out ?_
      simp only [List.getElem_toArray, List.getElem_cons_succ, List.getElem_cons_zero, Act.put, List.setIfInBounds_toArray, List.set_cons_zero, List.set_cons_succ]
      refine wpAnyH_take (i := 7) (v := hv x) rfl (by kernel_rfl) (by kernel_rfl) (by kernel_rfl) (fun _ _ _ h => h) (yieldsIf_load_mid (by rfl) 28 _ rfl b2 (o2 + j * 32) rfl (u8s x) _ (fun w h => h.2) hu28 rfl (info28_l hx)) HS.out ?_
      simp only [List.getElem_toArray, List.getElem_cons_succ, List.getElem_cons_zero, Act.put, List.setIfInBounds_toArray, List.set_cons_zero, List.set_cons_succ]
      refine wpAnyH_take (i := 8) (v := .bool false) rfl (by kernel_rfl) (by kernel_rfl) (by kernel_rfl) (fun _ _ _ h => h) (Or.inl ⟨by rfl, fun w hSw => by go_simp⟩) HS.out ?_
      simp only [List.getElem_toArray, List.getElem_cons_succ, List.getElem_cons_zero, Act.put, List.setIfInBounds_toArray, List.set_cons_zero, List.set_cons_succ]
      refine wpAnyH_done (by kernel_rfl) ?_ _
      go_wp2
      exact ⟨⟨j + 1, by omega, by go_num, HP2⟩, by simp [intOf]; omega⟩
    · obtain rfl : j = l.length := by omega
      have q1 : ¬ ((l.length : Int) < l.length) := by omega
      go_wp2
      go_ret
      exact ⟨rfl, HP.out⟩

set_option maxHeartbeats 1000000 in
theorem KeptHashs_any (w : World) (v u : Value) (l : List (List UInt8)) (h : LentH w v l) (k : Hashs w u l) (hlen : l.length ≤ 4398046510976) :
    Calls Try.prog 32 #[v, u] w fun e w' => e = .returned (.bool true) ∧ Pure w w' := by
  have hI := h.hashs
  have kk := k
  obtain ⟨b, c, rfl, h2, h3, h4⟩ := h
  obtain ⟨ao2, d, rfl, hd, _, _⟩ := kk
  have hall : ∀ y ∈ l ++ [roomH, roomH], y.length = 32 := fun y hy => by
    rcases List.mem_append.1 hy with h | h
    · exact h4 y h
    · simp at h; rw [h]; exact roomH_length
  have c1 := hrow_at (l ++ [roomH, roomH]) 0 l.length roomH (by simp) h3 hall
  have c2 := hrow_at (l ++ [roomH, roomH]) 0 (l.length + 1) roomH (by simp) h3 hall
  have i1 : IntKind.i64.wrap ((l.length : Int) + 1) = (l.length : Int) + 1 := IntWalk.i64_in _ (by omega)
  have i2 : IntKind.i64.wrap ((l.length : Int) + 2) = (l.length : Int) + 2 := IntWalk.i64_in _ (by omega)
  have hi1 : ((l.length : Int)).toNat = l.length := by omega
  have hi2 : ((l.length : Int) + 1).toNat = l.length + 1 := by omega
  have hi3 : ((l.length : Int) + 2).toNat = l.length + 2 := by omega
  have q1 : (l.length : Int) + 2 ≤ c := by omega
  have q2 : (0 : Int) ≤ (l.length : Int) + 2 := by omega
  have q3 : (l.length : Int) < (l.length : Int) + 2 := by omega
  have q4 : (l.length : Int) + 1 < (l.length : Int) + 2 := by omega
  have q5 : (0 : Int) ≤ (l.length : Int) + 1 := by omega
  have qc : ¬ c = 0 := by omega
  have hu28 := Try.underlying28
  have nq : ∀ V : World, (binOp .eql 28 (hv roomH) (hv roomH)).run Try.prog V = .ok (.bool true) V := fun V => same28 V roomH_length
  rw [Nat.zero_add] at c1 c2
  have C1 := Lib.hid c1; have C2 := Lib.hid c2; clear c1 c2 h3 h4 hall
  go_enter Try.func32, Try.ntmps32
  go_wp2_with fail
  refine (SameHashs_any _ _ _ _ hI k hlen).mono ?_
  rintro e w1 ⟨rfl, ht1⟩
  have D1 := Lib.hid (ht1.range C1.out (fun e => e)); have D2 := Lib.hid (ht1.range C2.out (fun e => e))
  clear C1 C2
  go_wp2_with (first | (refine wpList_build77 (by rfl) rfl ?_) | (refine wpList_load_mid_w (by rfl) 28 _ rfl b (l.length * 32) rfl (u8s roomH) _ D1.out hu28 rfl (info28_l roomH_length) ?_) | (refine wpList_load_mid_w (by rfl) 28 _ rfl b ((l.length + 1) * 32) rfl (u8s roomH) _ D2.out hu28 rfl (info28_l roomH_length) ?_))
  go_ret
  exact ⟨rfl, ht1⟩
end Go.Proofs.Ytjbigghjbcjelaa
