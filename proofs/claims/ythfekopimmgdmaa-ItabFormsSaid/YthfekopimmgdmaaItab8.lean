/- Chapter 14: inodes that are compared, copied, lent. -/
import Derived.Test.YthfekopimmgdmaaItab7
namespace Go.Proofs.Ythfekopimmgdmaa
open Go.RowKit

theorem eqFields_same {P : Program} (d : Nat) (xs : Array Value) : ∀ fs : List Field, (∀ f ∈ fs, ∃ v, (∀ W, (part f.type xs f.offset).run P W = .ok v W) ∧ ∀ W, (Op.equalIn d f.type v v).run P W = .ok true W) → ∀ W, (Op.eqFields d xs xs fs).run P W = .ok true W
  | [], _, W => by simp [Op.eqFields]
  | f :: fs, h, W => by
    obtain ⟨v, h1, h2⟩ := h f (by simp)
    have ih := eqFields_same d xs fs (fun g hg => h g (by simp [hg])) W
    simp only [Op.eqFields, Sem.run_ite]
    split
    · simp only [Sem.run_bind, h1, h2, Result.andThen_ok]
      simpa using ih
    · exact ih
theorem fieldsN : (Try.prog.fieldsOf 41).toList.map (fun f => (f.type, f.offset)) = [(3, 0), (3, 1), (3, 2), (3, 3), (3, 4), (39, 5)] := by kernel_rfl
theorem strN : Try.prog.underlying 41 = some (.struct (Try.prog.fieldsOf 41)) := by kernel_rfl
theorem heldN : Try.prog.stoodInHeld 41 = false := by kernel_rfl
theorem grdN : Try.prog.eqGuardType Try.prog.depth 41 = false := by kernel_rfl
theorem sizeH (w : World) : (sizeOf 39).run Try.prog w = .ok 32 w := by
  cases hi : Try.prog.info? 39 with
  | none => have h := info28; rw [hi] at h; simp at h
  | some i =>
    have h := info28
    rw [hi] at h
    simp only [Option.map_some, Option.some.injEq] at h
    simp [sizeOf, typeInfo, hi, h]
theorem sizeU (w : World) : (sizeOf 5).run Try.prog w = .ok 1 w := by
  have h0 := Try.infoU8
  cases hi : Try.prog.info? 5 with
  | none => rw [hi] at h0; simp at h0
  | some i =>
    rw [hi] at h0
    simp only [Option.map_some, Option.some.injEq, Prod.mk.injEq] at h0
    simp [sizeOf, typeInfo, hi, h0.2.1]
theorem sameI_in (x : Ino) (hx : x.root.length = 32) (w : World) : (Op.equalIn 10000 41 (.agg (inoC x).toArray) (.agg (inoC x).toArray)).run Try.prog w = .ok true w := by
  rw [run_equalIn_agg w 9999 41 _ _ strN heldN]
  refine eqFields_same 9999 _ _ (fun f hf => ?_) w
  have hm : (f.type, f.offset) ∈ [(3, 0), (3, 1), (3, 2), (3, 3), (3, 4), (39, 5)] := by
    rw [← fieldsN]
    exact List.mem_map.2 ⟨f, hf, rfl⟩
  have key : ∀ (k : Nat) (v : Int), (inoC x)[k]? = some (.int .i64 v) → f.type = 3 → f.offset = k → ∃ v, (∀ W, (part f.type (inoC x).toArray f.offset).run Try.prog W = .ok v W) ∧ ∀ W, (Op.equalIn 9999 f.type v v).run Try.prog W = .ok true W := by
    intro k v hk ht ho
    refine ⟨.int .i64 v, fun W => ?_, fun W => ?_⟩
    · rw [ht, ho]
      simp [part, isAgg, run_underlying Try.underlying3, hk]
    · rw [ht, run_equalIn_int W 9998 3 .i64 _ v v Try.underlying3, beq_self_eq_true]
  simp only [List.mem_cons, List.not_mem_nil, or_false, Prod.mk.injEq] at hm
  rcases hm with ⟨ht, ho⟩ | ⟨ht, ho⟩ | ⟨ht, ho⟩ | ⟨ht, ho⟩ | ⟨ht, ho⟩ | ⟨ht, ho⟩
  · exact key 0 _ rfl ht ho
  · exact key 1 _ rfl ht ho
  · exact key 2 _ rfl ht ho
  · exact key 3 _ rfl ht ho
  · exact key 4 _ rfl ht ho
  · refine ⟨hv x.root, fun W => ?_, fun W => ?_⟩
    · rw [ht, ho]
      simp only [part, isAgg, Sem.run_bind, run_underlying Try.underlying39, Result.andThen_ok, Sem.run_pure, if_true, sizeH]
      congr 2
      apply Array.toList_inj.1
      simp [inoC, List.extract, u8s_length, hx, List.take_of_length_le]
    · rw [ht]
      have := run_equalIn_bytes (P := Try.prog) W 9997 39 5 32 Try.underlying39 Try.underlying5 sizeU x.root x.root hx hx
      rw [beq_self_eq_true] at this
      exact this
theorem eqI (w : World) (x : Ino) (hx : x.root.length = 32) : (binOp .eql 41 (.agg (inoC x).toArray) (.agg (inoC x).toArray)).run Try.prog w = .ok (.bool true) w := by
  rw [run_eql_struct, sameI_in x hx]; rfl
theorem neI (w : World) (x : Ino) (hx : x.root.length = 32) : (binOp .neq 41 (.agg (inoC x).toArray) (.agg (inoC x).toArray)).run Try.prog w = .ok (.bool false) w := by
  rw [run_neq_struct, sameI_in x hx]; rfl
theorem eqgI (w : World) (b : BinOp) (x y : Operand) (l m : List Value) : (eqGuard b 41 x y (.agg l.toArray) (.agg m.toArray)).run Try.prog w = .ok () w := run_eqGuard_agg w b 41 x y _ _ grdN
theorem wpList_eqI {ops : Array Oper} {rest : List Oper} {op : Oper} {a : Act} {w : World} {Q : Exit → Act → World → Prop} (hw : Region.wanted op (yielded ops a.tmps) = true) (x y : Operand) (ho : op.op = .binOp .eql 41 x y 41)
    (X : Ino) (hX : X.root.length = 32) (hx : a.eval x = .agg (inoC X).toArray) (hy : a.eval y = .agg (inoC X).toArray) (h : wpList Try.prog ops Q rest (a.put op.dst (.bool true)) w) : wpList Try.prog ops Q (op :: rest) a w :=
  wpList_step fun K hK => by
    rw [if_pos hw]
    have hr : (do eqGuard .eql 41 x y (.agg (inoC X).toArray) (.agg (inoC X).toArray); binOp .eql 41 (.agg (inoC X).toArray) (.agg (inoC X).toArray) : Sem Value).run Try.prog w = .ok (.bool true) w := by
      rw [Sem.run_bind, eqgI, Result.andThen_ok, eqI w X hX]
    unfold Oper.wp execOp
    simp only [ho, hx, hy]
    rw [Sem.run_bind, hr]
    exact hK _ _ h
theorem Rows.at_ {w : World} {v : Value} {xs : List Ino} (h : Rows inoC 37 w v xs) : ∃ ao c, v = .slice ao xs.length c ∧ xs.length ≤ c := by obtain ⟨ao, c, h1, h2, _⟩ := h; exact ⟨ao, c, h1, h2⟩

set_option maxRecDepth 100000 in
set_option maxHeartbeats 4000000 in
theorem SameInodes_any (w : World) (v u : Value) (xs : List Ino) (h : Rows inoC 37 w v xs) (k : Rows inoC 37 w u xs) (hr : ∀ x ∈ xs, x.root.length = 32) (hlen : xs.length ≤ 4398046510976) :
    Calls Try.prog 15 #[v, u] w fun e w' => e = .returned (.bool true) ∧ Pure w w' := by
  obtain ⟨ao, c, rfl, h2, h3, h4⟩ := h
  obtain ⟨bo, d, rfl, k2, k3, _⟩ := k
  have H3 := Lib.hid h3; have K3 := Lib.hid k3; have H4 := Lib.hid h4; have HR := Lib.hid hr; clear h3 k3 h4 hr
  have hnn : ((xs.length : Int) != (xs.length : Int)) = false := by simp
  go_enter Try.func15, Try.ntmps15
  go_wp2
  go_loopw [5] (fun i wr => ∃ j : Nat, j ≤ xs.length ∧ i = .int .i64 (j : Int) ∧ Hid (Pure w wr)) (fun i _ => xs.length - (intOf i).toNat)
  case atStart => exact ⟨0, by omega, rfl, Lib.hid (Turn.refl _ _)⟩
  case round =>
    obtain ⟨j, hj, rfl, HP⟩ := hrel
    by_cases hlt : j < xs.length
    · have hne : xs ≠ [] := fun e => by rw [e] at hlt; simp at hlt
      obtain ⟨b, o, rfl, hrg⟩ := H3.out hne
      obtain ⟨b2, o2, rfl, krg⟩ := K3.out hne
      have c1 := HP.out.range (rowOf_at xs o j xs[j] (by simp) hrg H4.out) (fun e => e)
      have c2 := HP.out.range (rowOf_at xs o2 j xs[j] (by simp) krg H4.out) (fun e => e)
      have hx : (xs[j]).root.length = 32 := HR.out _ (by simp)
      generalize xs[j] = X at c1 c2 hx
      have nq : ∀ V : World, (binOp .neq 41 (.agg (inoC X).toArray) (.agg (inoC X).toArray)).run Try.prog V = .ok (.bool false) V := fun V => neI V X hx
      have ng : ∀ (V : World) (p q : Operand), (eqGuard .neq 41 p q (.agg (inoC X).toArray) (.agg (inoC X).toArray)).run Try.prog V = .ok () V := fun V p q => eqgI V .neq p q _ _
      have hC := inoC_length hx
      have q1 : (j : Int) < xs.length := by omega
      have q0 : (0 : Int) ≤ j := by omega
      have i3 : IntKind.i64.wrap ((j : Int) + 1) = ((j + 1 : Nat) : Int) := by rw [IntWalk.i64_in _ (by omega)]; omega
      clear hrg krg
      generalize inoC X = C at *
      go_wp2_with fail
      refine wp_region_held_drew (S := fun w' => w'.rangeAt b (o + j * 37) C ∧ w'.rangeAt b2 (o2 + j * 37) C) (by kernel_rfl) (show _ ∧ _ from ⟨c1, c2⟩) (fun hS => ?_)
      have HS := Lib.hid hS
      have HP2 := Lib.hid HP.out.drew
      clear hS c1 c2 HP
      generalize wr.drew = w2 at *
      refine wpAnyH_take (i := 0) (v := ?_) rfl (by kernel_rfl) (by kernel_rfl) (by kernel_rfl) (fun _ _ _ h => h) (Or.inl ⟨by rfl, fun w hSw => ?_⟩) HS.out ?_
      rotate_left
      · first | (go_simp; done) | (go_simp; with_reducible rfl)
      simp only [List.getElem_toArray, List.getElem_cons_zero, Act.put, List.setIfInBounds_toArray, List.set_cons_zero, List.set_cons_succ]
      refine wpAnyH_take (i := 1) (v := ?_) rfl (by kernel_rfl) (by kernel_rfl) (by kernel_rfl) (fun _ _ _ h => h) (Or.inl ⟨by rfl, fun w hSw => ?_⟩) HS.out ?_
      rotate_left
      · first | (go_simp; done) | (go_simp; with_reducible rfl)
      simp only [List.getElem_toArray, List.getElem_cons_succ, List.getElem_cons_zero, Act.put, List.setIfInBounds_toArray, List.set_cons_zero, List.set_cons_succ]
      refine wpAnyH_take (i := 2) (v := ?_) rfl (by kernel_rfl) (by kernel_rfl) (by kernel_rfl) (fun _ _ _ h => h) (Or.inl ⟨by rfl, fun w hSw => ?_⟩) HS.out ?_
      rotate_left
      · first | (go_simp; done) | (go_simp; with_reducible rfl)
      simp only [List.getElem_toArray, List.getElem_cons_succ, List.getElem_cons_zero, Act.put, List.setIfInBounds_toArray, List.set_cons_zero, List.set_cons_succ]
      refine wpAnyH_take (i := 3) (v := .agg C.toArray) rfl (by kernel_rfl) (by kernel_rfl) (by kernel_rfl) (fun _ _ _ h => h) (yieldsIf_load_mid (by rfl) 41 _ rfl b (o + j * 37) rfl C _ (fun w h => h.1) Try.underlying41 rfl (by rw [infoN, hC])) HS.out ?_
      simp only [List.getElem_toArray, List.getElem_cons_succ, List.getElem_cons_zero, Act.put, List.setIfInBounds_toArray, List.set_cons_zero, List.set_cons_succ]
      refine wpAnyH_take (i := 4) (v := ?_) rfl (by kernel_rfl) (by kernel_rfl) (by kernel_rfl) (fun _ _ _ h => h) (Or.inl ⟨by rfl, fun w hSw => ?_⟩) HS.out ?_
      rotate_left
      · first | (go_simp; done) | (go_simp; with_reducible rfl)
      simp only [List.getElem_toArray, List.getElem_cons_succ, List.getElem_cons_zero, Act.put, List.setIfInBounds_toArray, List.set_cons_zero, List.set_cons_succ]
      refine wpAnyH_take (i := 5) (v := ?_) rfl (by kernel_rfl) (by kernel_rfl) (by kernel_rfl) (fun _ _ _ h => h) (Or.inl ⟨by rfl, fun w hSw => ?_⟩) HS.out ?_
      rotate_left
      · first | (go_simp; done) | (go_simp; with_reducible rfl)
      simp only [List.getElem_toArray, List.getElem_cons_succ, List.getElem_cons_zero, Act.put, List.setIfInBounds_toArray, List.set_cons_zero, List.set_cons_succ]
      refine wpAnyH_take (i := 6) (v := ?_) rfl (by kernel_rfl) (by kernel_rfl) (by kernel_rfl) (fun _ _ _ h => h) (Or.inl ⟨by rfl, fun w hSw => ?_⟩) HS.out ?_
      rotate_left
      · first | (go_simp; done) | (go_simp; with_reducible rfl)
      simp only [List.getElem_toArray, List.getElem_cons_succ, List.getElem_cons_zero, Act.put, List.setIfInBounds_toArray, List.set_cons_zero, List.set_cons_succ]
      refine wpAnyH_take (i := 7) (v := .agg C.toArray) rfl (by kernel_rfl) (by kernel_rfl) (by kernel_rfl) (fun _ _ _ h => h) (yieldsIf_load_mid (by rfl) 41 _ rfl b2 (o2 + j * 37) rfl C _ (fun w h => h.2) Try.underlying41 rfl (by rw [infoN, hC])) HS.out ?_
      simp only [List.getElem_toArray, List.getElem_cons_succ, List.getElem_cons_zero, Act.put, List.setIfInBounds_toArray, List.set_cons_zero, List.set_cons_succ]
      refine wpAnyH_take (i := 8) (v := ?_) rfl (by kernel_rfl) (by kernel_rfl) (by kernel_rfl) (fun _ _ _ h => h) (Or.inl ⟨by rfl, fun w hSw => ?_⟩) HS.out ?_
      rotate_left
      · first | (go_simp; done) | (go_simp; with_reducible rfl)
      simp only [List.getElem_toArray, List.getElem_cons_succ, List.getElem_cons_zero, Act.put, List.setIfInBounds_toArray, List.set_cons_zero, List.set_cons_succ]
      refine wpAnyH_done (by kernel_rfl) ?_ _
      go_wp2
      exact ⟨⟨j + 1, by omega, by first | rfl | trivial | go_num, HP2⟩, by simp [intOf]; omega⟩
    · obtain rfl : j = xs.length := by omega
      have q1 : ¬ ((xs.length : Int) < xs.length) := by omega
      go_wp2
      go_ret
      exact ⟨rfl, HP.out⟩

set_option maxRecDepth 100000 in
set_option maxHeartbeats 1000000 in
theorem CopyInodes_any (w : World) (v : Value) (xs : List Ino) (h : Rows inoC 37 w v xs) (hlen : xs.length ≤ 1954687338211) :
    Calls Try.prog 27 #[v] w fun e w' => ∃ r, e = .returned r ∧ w'.ownsRow 0 41 37 r xs.length (rowOf inoC xs) ∧ (∀ k, r.ownBlock = some k → w.heap.size ≤ k) ∧ Pure w w' := by
  obtain ⟨iN, zN, HIN, hzN, hszN, hbyN, hzsN⟩ := partsN
  have hi := HIN.out
  have hp : Pure w (w.alloc (.cells #[] 41)) := (Turn.refl _ _).alloc _
  have hs : Src Try.prog 37 22 v xs.length (rowOf inoC xs) (w.alloc (.cells #[] 41)) := (h.pure hp).src Try.underlying22 (fun x _ => inoC_one x)
  have HS := Lib.hid hs; clear hs
  have ho : (w.alloc (.cells #[] 41)).ownsRow 0 41 37 (.slice (some ⟨w.heap.size, 0, none⟩) 0 0) 0 [] :=
    ⟨rfl, .inr ⟨w.heap.size, 0, #[], rfl, Nat.zero_le _, heap_alloc_new _ _, Nat.le_refl _, by decide, rfl, rfl⟩⟩
  have HO := Lib.hid ho; clear ho
  obtain ⟨av, cv, rfl, _, _⟩ := h
  go_enter Try.func27, Try.ntmps27
  go_wp2_with (at_builtin; refine wpList_append_turn _ rfl _ _ 22 22 41 rfl iN _ 37 72 Try.underlying22 hi hzN hszN hbyN hzsN _ _ _ rfl HO.out _ rfl xs.length _ HS.out (by omega) (by omega) ?_)
  intro ao c w2 ho2 ht2 hb2
  have hT : Pure w w2 := hp.trans ht2 fun i hi e => by have : w.heap.size = i := Option.some.inj e; omega
  have hB : ∀ k, (Value.slice ao xs.length c).ownBlock = some k → w.heap.size ≤ k := by
    intro k hk
    rcases hb2.out with e | e
    · have e2 := hk.symm.trans e
      have : k = w.heap.size := Option.some.inj e2
      omega
    · have e2 := hk.symm.trans e
      have := Option.some.inj e2
      omega
  have HT := Lib.hid hT; clear hT ht2 hb2
  have HB := Lib.hid hB; clear hB
  have HO2 := Lib.hid ho2; clear ho2
  go_wp2
  go_ret
  exact ⟨_, rfl, HO2.out, HB.out, HT.out⟩

def roomI : Ino := ⟨77777, 0, 0, 0, 0, List.replicate 32 0⟩
theorem roomI_root : roomI.root.length = 32 := by decide
theorem builtR : Try.prog.built 41 [(0, .int .i64 77777)] = some (inoC roomI).toArray := by kernel_rfl
theorem wpList_buildR {ops : Array Oper} {rest : List Oper} {o : Oper} {a : Act} {w : World} {Q : Exit → Act → World → Prop} (hg : Region.wanted o (yielded ops a.tmps) = true) (ho : o.op = .build 41 #[(0, .const (.int .i64 77777))])
    (h : wpList Try.prog ops Q rest (a.put o.dst (.agg (inoC roomI).toArray)) w) : wpList Try.prog ops Q (o :: rest) a w := by
  refine wpList_step fun K hK => ?_
  rw [if_pos hg]
  have hb : Try.prog.built 41 ((#[(0, Operand.const (.int .i64 77777))] : Array (Nat × Operand)).map fun (i, x) => (i, a.eval x)).toList = some (inoC roomI).toArray := by
    rw [← builtR]; simp [Act.eval]
  refine wp_build 41 _ ho (by rw [hb]; rfl) ?_
  rw [hb]
  exact hK _ _ h
theorem fillR : Instr.fill (fun i => some (i * 37, 37)) ((Array.range (2 * 37)).map ((Value.agg (inoC ⟨0, 0, 0, 0, 0, List.replicate 32 0⟩).toArray).cells[· % (Value.agg (inoC ⟨0, 0, 0, 0, 0, List.replicate 32 0⟩).toArray).cells.size]!)) [(0, .agg (inoC roomI).toArray), (1, .agg (inoC roomI).toArray)] = some (rowOf inoC [roomI, roomI]).toArray := by kernel_rfl
theorem wpList_buildRoom {ops : Array Oper} {rest : List Oper} {o : Oper} {a : Act} {w : World} {Q : Exit → Act → World → Prop} (hg : o.guard = none) (x y : Operand) (ho : o.op = .buildSlice 22 2 #[(0, x), (1, y)])
    (hx : a.eval x = .agg (inoC roomI).toArray) (hy : a.eval y = .agg (inoC roomI).toArray)
    (h : wpList Try.prog ops Q rest (a.put o.dst (.slice (some ⟨w.heap.size, 0, none⟩) 2 2)) (w.alloc (.cells (rowOf inoC [roomI, roomI]).toArray 41))) : wpList Try.prog ops Q (o :: rest) a w := by
  have hz0 : (Try.prog.info? 41).map (fun i => (i.zero, i.size)) = some (some (Value.agg (inoC ⟨0, 0, 0, 0, 0, List.replicate 32 0⟩).toArray), 37) := by kernel_rfl
  cases hi : Try.prog.info? 41 with
  | none => rw [hi] at hz0; simp at hz0
  | some i =>
    rw [hi] at hz0
    simp only [Option.map_some, Option.some.injEq, Prod.mk.injEq] at hz0
    obtain ⟨hz, hs⟩ := hz0
    refine wpList_buildSlice hg 22 41 2 #[(0, x), (1, y)] ho (rowOf inoC [roomI, roomI]).toArray i _ Try.underlying22 hi hz (by rw [hs]; omega) (by rw [hs]; omega) ?_ h
    rw [hs]
    simpa [hx, hy] using fillR
theorem inoRow_one (xs : List Ino) : ∀ u ∈ rowOf inoC xs, u.oneCell' = true := by
  intro u hu
  obtain ⟨x, _, hx⟩ := List.mem_flatMap.1 hu
  exact inoC_one x u hx

/-- Inodes that are lent. -/
def LentI (w : World) (v : Value) (l : List Ino) : Prop :=
  ∃ b c, v = .slice (some ⟨b, 0, none⟩) l.length c ∧ l.length + 2 ≤ c ∧ w.rangeAt b 0 (rowOf inoC (l ++ [roomI, roomI])) ∧ ∀ x ∈ l, (inoC x).length = 37
theorem LentI.pure {w w' : World} {v : Value} {l : List Ino} (h : LentI w v l) (t : Pure w w') : LentI w' v l := by
  obtain ⟨b, c, h1, h2, h3, h4⟩ := h
  exact ⟨b, c, h1, h2, t.range h3 (fun e => e), h4⟩
theorem LentI.rows {w : World} {v : Value} {l : List Ino} (h : LentI w v l) : Rows inoC 37 w v l := by
  obtain ⟨b, c, rfl, h2, h3, h4⟩ := h
  exact ⟨_, c, rfl, by omega, fun _ => ⟨b, 0, rfl, rowOf_left h3⟩, h4⟩

set_option maxRecDepth 100000 in
set_option maxHeartbeats 1000000 in
theorem LendInodes_any (w : World) (v : Value) (l : List Ino) (h : Rows inoC 37 w v l) (hlen : l.length ≤ 1954687338211) :
    Calls Try.prog 9 #[v] w fun e w' => ∃ r, e = .returned r ∧ LentI w' r l ∧ Pure w w' := by
  obtain ⟨iN, zN, HIN, hzN, hszN, hbyN, hzsN⟩ := partsN
  have hi := HIN.out
  have hh := h
  obtain ⟨ao0, cap0, rfl, hcap0, _, h4⟩ := hh
  have H4 := Lib.hid h4; clear h4
  have hc := CopyInodes_any w _ l h hlen
  go_enter Try.func9, Try.ntmps9
  go_wp2_with fail
  refine hc.mono ?_
  rintro e w1 ⟨r, rfl, ho1, hb1, ht1⟩
  have hA : Pure w1 (w1.alloc (.cells (rowOf inoC [roomI, roomI]).toArray 41)) := (Turn.refl _ _).alloc _
  have ho2 := hA.own ho1 (fun _ _ e => e)
  have hs : Src Try.prog 37 22 (.slice (some ⟨w1.heap.size, 0, none⟩) 2 2) 2 (rowOf inoC [roomI, roomI]) (w1.alloc (.cells (rowOf inoC [roomI, roomI]).toArray 41)) :=
    Src.ofSlice _ Try.underlying22 _ _ _ _ (by decide) (fun q u hu => by rw [Addr.add_mid]; exact range_of_row (heap_alloc_new w1 _) q u hu) (inoRow_one _)
  have HS := Lib.hid hs; clear hs
  have HO := Lib.hid ho2; clear ho2 ho1
  have HA := Lib.hid (ht1.pure hA)
  have HB := Lib.hid hb1; clear hb1
  have HT := Lib.hid ht1; clear ht1 hA
  clear h hc
  go_wp2_with (first | (refine wpList_buildR (by rfl) rfl ?_) | (refine wpList_buildRoom rfl _ _ rfl rfl rfl ?_) | (at_builtin; refine wpList_append_turn _ rfl _ _ 22 22 41 rfl iN _ 37 72 Try.underlying22 hi hzN hszN hbyN hzsN _ _ _ rfl HO.out _ rfl 2 _ HS.out (by omega) (by omega) ?_))
  intro ao c w2 ho2 ht2 hb2
  have hT : Pure w w2 := HA.out.trans ht2 fun i hi e => by have := HB.out i e; omega
  rw [← rowOf_app] at ho2
  have hgc : ∃ b, ao = some ⟨b, 0, none⟩ ∧ l.length + 2 ≤ c := by
    rcases ho2.2 with ⟨e, h0⟩ | ⟨g, cap, cur, e, _, _, hn, _⟩
    · omega
    · simp only [Value.slice.injEq] at e
      obtain ⟨rfl, _, rfl⟩ := e
      exact ⟨g, rfl, hn⟩
  obtain ⟨b, rfl, hc⟩ := hgc
  have hrg : w2.rangeAt b 0 (rowOf inoC (l ++ [roomI, roomI])) := by
    intro j u hj
    have := ho2.cells (g := b) rfl j u hj
    rwa [Addr.add_mid] at this
  have HR := Lib.hid hrg; clear hrg ho2 ht2 hb2
  have HT2 := Lib.hid hT; clear hT
  have q1 : (l.length : Int) ≤ c := by omega
  have qc : ¬ c = 0 := by omega
  have q0 : (0 : Int) ≤ (l.length : Int) := by omega
  go_wp2
  go_ret
  exact ⟨_, rfl, ⟨b, c, rfl, hc, HR.out, H4.out⟩, HT2.out⟩

set_option maxRecDepth 100000 in
set_option maxHeartbeats 1000000 in
theorem KeptInodes_any (w : World) (v u : Value) (l : List Ino) (h : LentI w v l) (k : Rows inoC 37 w u l) (hr : ∀ x ∈ l, x.root.length = 32) (hlen : l.length ≤ 1954687338211) :
    Calls Try.prog 18 #[v, u] w fun e w' => e = .returned (.bool true) ∧ Pure w w' := by
  have hI := h.rows
  have kk := k
  obtain ⟨b, c, rfl, h2, h3, h4⟩ := h
  obtain ⟨ao2, d, rfl, hd, _, _⟩ := kk
  have hall : ∀ y ∈ l ++ [roomI, roomI], (inoC y).length = 37 := fun y hy => by
    rcases List.mem_append.1 hy with h | h
    · exact h4 y h
    · simp at h; rw [h]; exact inoC_length roomI_root
  have c1 := rowOf_at (l ++ [roomI, roomI]) 0 l.length roomI (by simp) h3 hall
  have c2 := rowOf_at (l ++ [roomI, roomI]) 0 (l.length + 1) roomI (by simp) h3 hall
  have i1 : IntKind.i64.wrap ((l.length : Int) + 1) = (l.length : Int) + 1 := IntWalk.i64_in _ (by omega)
  have i2 : IntKind.i64.wrap ((l.length : Int) + 2) = (l.length : Int) + 2 := IntWalk.i64_in _ (by omega)
  have hi1 : ((l.length : Int)).toNat = l.length := by omega
  have hi2 : ((l.length : Int) + 1).toNat = l.length + 1 := by omega
  have hi3 : ((l.length : Int) + 2).toNat = l.length + 2 := by omega
  have q1 : (l.length : Int) + 2 ≤ c := by omega
  have q2 : (0 : Int) ≤ (l.length : Int) + 2 := by omega
  have q3 : (l.length : Int) < (l.length : Int) + 2 := by omega
  have q4 : (l.length : Int) + 1 < (l.length : Int) + 2 := by omega
  have q5 : (0 : Int) ≤ (l.length : Int) + 1 := by omega
  have qc : ¬ c = 0 := by omega
  have hC := inoC_length roomI_root
  rw [Nat.zero_add] at c1 c2
  have C1 := Lib.hid c1; have C2 := Lib.hid c2; clear c1 c2 h3 h4 hall
  have HSM := Lib.hid (SameInodes_any w _ _ l hI k hr (by omega))
  clear hI k hr
  go_enter Try.func18, Try.ntmps18
  go_wp2_with fail
  refine (HSM.out).mono ?_
  rintro e w1 ⟨rfl, ht1⟩
  have D1 := Lib.hid (ht1.range C1.out (fun e => e)); have D2 := Lib.hid (ht1.range C2.out (fun e => e))
  clear C1 C2 HSM
  go_wp2_with (first | (refine wpList_buildR (by rfl) rfl ?_) | (refine wpList_load_mid_w (by rfl) 41 _ rfl b (l.length * 37) rfl (inoC roomI) _ D1.out Try.underlying41 rfl (by rw [infoN, hC]) ?_) | (refine wpList_load_mid_w (by rfl) 41 _ rfl b ((l.length + 1) * 37) rfl (inoC roomI) _ D2.out Try.underlying41 rfl (by rw [infoN, hC]) ?_) | (refine wpList_eqI (by rfl) _ _ rfl roomI roomI_root rfl rfl ?_))
  go_ret
  exact ⟨rfl, ht1⟩
end Go.Proofs.Ythfekopimmgdmaa
