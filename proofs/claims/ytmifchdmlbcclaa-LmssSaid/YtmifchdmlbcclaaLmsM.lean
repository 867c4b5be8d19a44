/- Chapter 5: any key and message: the walk of the law Lmss. -/
import Derived.Test.YtmifchdmlbcclaaLmsK
import Derived.Test.YtmifchdmlbcclaaLmsA
import Derived.Test.YtmifchdmlbcclaaFit
namespace Go.Proofs.Ytmifchdmlbcclaa
open Go.RowKit
set_option maxRecDepth 100000

theorem cellsS : Try.prog.cellsOf 9 = 1 := by kernel_rfl
theorem cellsLI : Try.prog.cellsOf 3 = 1 := by kernel_rfl
theorem cellsLK : Try.prog.cellsOf 45 = 5 := by kernel_rfl
theorem list5 {α : Type} : ∀ {l : List α}, l.length = 5 → ∃ a b c d e, l = [a, b, c, d, e]
  | [a, b, c, d, e], _ => ⟨a, b, c, d, e, rfl⟩
/-- An argument that is a key. -/
theorem lk_open {H : Type} {enc : TypeId × Value → H} {w : World} {cs : List Value} (h : Fit enc Try.prog w 45 cs) : ∃ k : LKey, cs = lkC k ∧ (k.id.length ≤ 140737488351232 ∧ k.seed.length ≤ 140737488351232) := by
  obtain ⟨hl, hf⟩ := h.struct Try.underlying45
  rw [cellsLK] at hl
  obtain ⟨c0, c1, c2, c3, c4, rfl⟩ := list5 hl
  obtain ⟨a, ha, _⟩ := (hf 0 _ rfl).int Try.underlying3
  obtain ⟨b, hb, _⟩ := (hf 1 _ rfl).int Try.underlying3
  obtain ⟨c, hc, hc2⟩ := (hf 2 _ rfl).string Try.underlying9
  obtain ⟨d, hd, hd2⟩ := (hf 3 _ rfl).string Try.underlying9
  obtain ⟨e, he, _⟩ := (hf 4 _ rfl).int Try.underlying3
  simp [cellsLI, cellsS] at ha hb hc hd he
  exact ⟨⟨a, b, c, d, e⟩, by simp [lkC, ha, hb, hc, hd, he], hc2, hd2⟩
theorem open_lk {H : Type} {enc : TypeId × Value → H} {w : World} {W : World} {r : Reach} {base : Nat} {v : Value} (h : Fit enc Try.prog w 45 v.cells.toList) (hv0 : Value.okWide Try.prog W r base 45 v) : ∃ k : LKey, v = .agg (lkC k).toArray ∧ (k.id.length ≤ 140737488351232 ∧ k.seed.length ≤ 140737488351232) := by
  obtain ⟨k, hk, h2⟩ := lk_open h
  simp only [Value.okWide, Try.underlying45] at hv0
  obtain ⟨cs, rfl, _, _⟩ := hv0
  refine ⟨k, ?_, h2⟩
  have : cs.toList = lkC k := hk
  rw [← this]
theorem eqFields_same {P : Program} (d : Nat) (xs : Array Value) : ∀ fs : List Field, (∀ f ∈ fs, ∃ v, (∀ W, (part f.type xs f.offset).run P W = .ok v W) ∧ ∀ W, (Op.equalIn d f.type v v).run P W = .ok true W) → ∀ W, (Op.eqFields d xs xs fs).run P W = .ok true W
  | [], _, W => by simp [Op.eqFields]
  | f :: fs, h, W => by
    obtain ⟨v, h1, h2⟩ := h f (by simp)
    have ih := eqFields_same d xs fs (fun g hg => h g (by simp [hg])) W
    simp only [Op.eqFields, Sem.run_ite]
    split
    · simp only [Sem.run_bind, h1, h2, Result.andThen_ok]
      simpa using ih
    · exact ih
theorem fieldsLK : (Try.prog.fieldsOf 45).toList.map (fun f => (f.type, f.offset)) = [(3, 0), (3, 1), (9, 2), (9, 3), (3, 4)] := by kernel_rfl
theorem strLK : Try.prog.underlying 45 = some (.struct (Try.prog.fieldsOf 45)) := by kernel_rfl
theorem heldLK : Try.prog.stoodInHeld 45 = false := by kernel_rfl
theorem grdLK : Try.prog.eqGuardType Try.prog.depth 45 = false := by kernel_rfl
theorem sameLK (k : LKey) (w : World) : (Op.equalIn 10000 45 (.agg (lkC k).toArray) (.agg (lkC k).toArray)).run Try.prog w = .ok true w := by
  rw [run_equalIn_agg w 9999 45 _ _ strLK heldLK]
  refine eqFields_same 9999 _ _ (fun f hf => ?_) w
  have hm : (f.type, f.offset) ∈ [(3, 0), (3, 1), (9, 2), (9, 3), (3, 4)] := by
    rw [← fieldsLK]
    exact List.mem_map.2 ⟨f, hf, rfl⟩
  have key : ∀ (j : Nat) (v : Int), (lkC k)[j]? = some (.int .i64 v) → f.type = 3 → f.offset = j → ∃ v, (∀ W, (part f.type (lkC k).toArray f.offset).run Try.prog W = .ok v W) ∧ ∀ W, (Op.equalIn 9999 f.type v v).run Try.prog W = .ok true W := by
    intro j v hk ht ho
    refine ⟨.int .i64 v, fun W => ?_, fun W => ?_⟩
    · rw [ht, ho]
      simp [part, isAgg, run_underlying Try.underlying3, hk]
    · rw [ht, run_equalIn_int W 9998 3 .i64 _ v v Try.underlying3, beq_self_eq_true]
  have keyS : ∀ (j : Nat) (v : ByteArray), (lkC k)[j]? = some (.string v) → f.type = 9 → f.offset = j → ∃ v, (∀ W, (part f.type (lkC k).toArray f.offset).run Try.prog W = .ok v W) ∧ ∀ W, (Op.equalIn 9999 f.type v v).run Try.prog W = .ok true W := by
    intro j v hk ht ho
    refine ⟨.string v, fun W => ?_, fun W => ?_⟩
    · rw [ht, ho]
      simp [part, isAgg, run_underlying Try.underlying9, hk]
    · rw [ht, run_equalIn_string W 9998 9 v v Try.underlying9, beq_self_eq_true]
  simp only [List.mem_cons, List.not_mem_nil, or_false, Prod.mk.injEq] at hm
  rcases hm with ⟨ht, ho⟩ | ⟨ht, ho⟩ | ⟨ht, ho⟩ | ⟨ht, ho⟩ | ⟨ht, ho⟩
  · exact key 0 _ rfl ht ho
  · exact key 1 _ rfl ht ho
  · exact keyS 2 _ rfl ht ho
  · exact keyS 3 _ rfl ht ho
  · exact key 4 _ rfl ht ho
theorem eqLK (w : World) (k : LKey) : (binOp .eql 45 (.agg (lkC k).toArray) (.agg (lkC k).toArray)).run Try.prog w = .ok (.bool true) w := by
  rw [run_eql_struct, sameLK k]; rfl
theorem eqgLK (w : World) (b : BinOp) (x y : Operand) (l m : List Value) : (eqGuard b 45 x y (.agg l.toArray) (.agg m.toArray)).run Try.prog w = .ok () w := run_eqGuard_agg w b 45 x y _ _ grdLK
theorem wpList_load_wK {ops : Array Oper} {rest : List Oper} {op : Oper} {a : Act} {w : World} {Q : Exit → Act → World → Prop} (hw : Region.wanted op (yielded ops a.tmps) = true) (x : Operand) (ho : op.op = .load 45 x)
    (b : Nat) (hx : a.eval x = .pointer (some ⟨b, 0, none⟩)) (k : LKey) (hc : w.rangeAt b 0 (lkC k)) (h : wpList Try.prog ops Q rest (a.put op.dst (.agg (lkC k).toArray)) w) : wpList Try.prog ops Q (op :: rest) a w :=
  wpList_step fun K hK => by rw [if_pos hw]; exact wp_load_mid 45 x ho b 0 hx (lkC k) _ hc Try.underlying45 rfl infoLK (hK _ _ h)
theorem wpList_eqLK {ops : Array Oper} {rest : List Oper} {op : Oper} {a : Act} {w : World} {Q : Exit → Act → World → Prop} (hw : Region.wanted op (yielded ops a.tmps) = true) (x y : Operand) (ho : op.op = .binOp .eql 45 x y 45)
    (k : LKey) (hx : a.eval x = .agg (lkC k).toArray) (hy : a.eval y = .agg (lkC k).toArray) (h : wpList Try.prog ops Q rest (a.put op.dst (.bool true)) w) : wpList Try.prog ops Q (op :: rest) a w :=
  wpList_step fun K hK => by
    rw [if_pos hw]
    have hr : (do eqGuard .eql 45 x y (.agg (lkC k).toArray) (.agg (lkC k).toArray); binOp .eql 45 (.agg (lkC k).toArray) (.agg (lkC k).toArray) : Sem Value).run Try.prog w = .ok (.bool true) w := by
      rw [Sem.run_bind, eqgLK, Result.andThen_ok, eqLK w k]
    unfold Oper.wp execOp
    simp only [ho, hx, hy]
    rw [Sem.run_bind, hr]
    exact hK _ _ h

set_option maxRecDepth 100000 in
set_option maxHeartbeats 4000000 in
theorem lmss_walk (k : LKey) (msg : List UInt8) (w : World) :
    Calls Try.prog 8 #[.agg (lkC k).toArray, .string (bstr msg)] w fun e w' => e = .returned (.bool true) ∧ Pure w w' := by
  obtain ⟨k', hk'⟩ : ∃ k' : LKey, k' = { k with height := min k.height 2 } := ⟨_, rfl⟩
  have hset : ∀ v : Int, (lkC k).take 1 ++ [Value.int .i64 v] ++ (lkC k).drop 2 = lkC { k with height := v } := fun v => rfl
  have hset2 := hset (min k.height 2)
  rw [← hk'] at hset2
  have hcc := fun W g => @lk_cells k W g
  have hp1 := fun W => LPublic_any W k'
  have hp2 := fun W => LmsPublicR_any W k'
  have hs1 := fun W => LSign_any W k' msg
  have hs2 := fun W => LmsSignR_any W k' msg
  have hd1 := lkC_one (lsignV k' msg).2.1
  generalize (lpubV k').1 = P1 at *
  generalize (lpubV k').2 = P2 at *
  generalize (lsignV k' msg).1 = S1 at *
  generalize (lsignV k' msg).2.1 = S2 at *
  generalize (lsignV k' msg).2.2 = S3 at *
  have HP1 := Lib.hid hp1; have HP2 := Lib.hid hp2; have HS1 := Lib.hid hs1; have HS2 := Lib.hid hs2; have HSET := Lib.hid hset2
  have HC1 := Lib.hid (lkC_one k); have HC2 := Lib.hid hd1
  have hl0 : (lkC k).length = 5 := rfl
  have HCC := Lib.hid (hcc)
  clear hp1 hp2 hs1 hs2 hset hset2 hk' hd1 hcc
  have e1 : (P1 == P1) = true := beq_self_eq_true _
  go_enter Try.func8, Try.ntmps8
  go_wp2_with (refine wpList_boxV rfl 45 _ rfl (lkC k) rfl ?_)
  intro g1 w1 e0 c0 t0 s0
  have D1 := Lib.hid c0; have PT := Lib.hid t0
  clear e0 c0 t0 s0
  have R1 := range_of_row D1.out
  go_wp2_with (first | (refine wpList_load_mid rfl 45 _ rfl g1 0 rfl (lkC k) _ R1 Try.underlying45 rfl infoLK ?_) | (refine wpList_allocZ rfl 45 rfl _ zeroLK ?_))
  intro g5 w2 e0 c0 t0 s0
  have l5 : w.heap.size ≤ g5 := by have := PT.out.size; omega
  have n1_5 : g1 ≠ g5 := by have := (Array.getElem?_eq_some_iff.1 D1.out).1; omega
  clear e0 s0 R1
  go_wp2_with (refine wpList_store_blk rfl 45 _ _ rfl g5 _ (lkC k) _ rfl rfl c0 rfl infoLK HC1.out ?_)
  intro w3 d1 t1 s1
  clear s1
  have D1 := Lib.hid (t1.obj (t0.obj D1.out (fun e => e)) n1_5)
  have D5 := Lib.hid d1; have PT := Lib.hid ((PT.out.pure t0).newer t1 l5)
  clear c0 t0 d1 t1
  have c4 := (HCC.out _ _ D1.out).2.1
  have c5 := (HCC.out _ _ D5.out).2.1
  have fz : w3.frozen? ⟨g5, 1, none⟩ = false := frozen_of_row w3 g5 1 _ _ D5.out
  obtain ⟨d2, t2, _⟩ := setAt (i := 1) (v := .int .i64 (min k.height 2)) D5.out (by rw [hl0]; omega)
  rw [HSET.out] at d2
  have D5 := Lib.hid d2; have PT := Lib.hid (PT.out.newer t2 l5)
  have R1 := range_of_row D5.out
  clear d2 t2
  go_wp2_with (refine wpList_load_mid rfl 45 _ rfl g5 0 rfl (lkC k') _ R1 Try.underlying45 rfl infoLK ?_)
  generalize w3.setCell ⟨g5, 1, none⟩ (.int .i64 (min k.height 2)) = w4 at *
  clear R1 c4 c5 fz
  refine (HP1.out _).mono ?_
  rintro e w5 ⟨rfl, t5⟩
  have D5 := Lib.hid (t5.obj D5.out (fun e => e)); have PT := Lib.hid (PT.out.pure t5)
  clear t5
  have R1 := range_of_row D5.out
  go_wp2_with (refine wpList_load_mid rfl 45 _ rfl g5 0 rfl (lkC k') _ R1 Try.underlying45 rfl infoLK ?_)
  clear R1
  refine (HP2.out _).mono ?_
  rintro e w6 ⟨rfl, t6⟩
  have D5 := Lib.hid (t6.obj D5.out (fun e => e)); have PT := Lib.hid (PT.out.pure t6)
  clear t6
  have R1 := range_of_row D5.out
  go_wp2_with (refine wpList_load_mid rfl 45 _ rfl g5 0 rfl (lkC k') _ R1 Try.underlying45 rfl infoLK ?_)
  clear R1
  refine (HS1.out _).mono ?_
  rintro e w7 ⟨rfl, t7⟩
  have D5 := Lib.hid (t7.obj D5.out (fun e => e)); have PT := Lib.hid (PT.out.pure t7)
  clear t7
  go_wp2_with (refine wpList_allocZ rfl 45 rfl _ zeroLK ?_)
  intro g11 w8 e0 c0 t0 s0
  have l11 : w.heap.size ≤ g11 := by have := PT.out.size; omega
  have n5_11 : g5 ≠ g11 := by have := (Array.getElem?_eq_some_iff.1 D5.out).1; omega
  clear e0 s0
  go_wp2_with (refine wpList_store_blk rfl 45 _ _ rfl g11 _ (lkC S2) _ rfl rfl c0 rfl infoLK HC2.out ?_)
  intro w9 d1 t1 s1
  clear s1
  have D5 := Lib.hid (t1.obj (t0.obj D5.out (fun e => e)) n5_11)
  have D11 := Lib.hid d1; have PT := Lib.hid ((PT.out.pure t0).newer t1 l11)
  clear c0 t0 d1 t1
  have R1 := range_of_row D5.out
  go_wp2_with (refine wpList_load_mid rfl 45 _ rfl g5 0 rfl (lkC k') _ R1 Try.underlying45 rfl infoLK ?_)
  clear R1
  refine (HS2.out _).mono ?_
  rintro e w10 ⟨rfl, t10⟩
  have D5 := Lib.hid (t10.obj D5.out (fun e => e)); have D11 := Lib.hid (t10.obj D11.out (fun e => e)); have PT := Lib.hid (PT.out.pure t10)
  clear t10
  go_wp2_with (refine wpList_allocZ rfl 45 rfl _ zeroLK ?_)
  intro g14 w11 e0 c0 t0 s0
  have l14 : w.heap.size ≤ g14 := by have := PT.out.size; omega
  have n5_14 : g5 ≠ g14 := by have := (Array.getElem?_eq_some_iff.1 D5.out).1; omega
  have n11_14 : g11 ≠ g14 := by have := (Array.getElem?_eq_some_iff.1 D11.out).1; omega
  clear e0 s0
  go_wp2_with (refine wpList_store_blk rfl 45 _ _ rfl g14 _ (lkC S2) _ rfl rfl c0 rfl infoLK HC2.out ?_)
  intro w12 d1 t1 s1
  clear s1
  have D5 := Lib.hid (t1.obj (t0.obj D5.out (fun e => e)) n5_14)
  have D11 := Lib.hid (t1.obj (t0.obj D11.out (fun e => e)) n11_14)
  have D14 := Lib.hid d1; have PT := Lib.hid ((PT.out.pure t0).newer t1 l14)
  clear c0 t0 d1 t1
  have R1 := range_of_row D11.out
  have R2 := range_of_row D14.out
  have es : (S1 == S1) = true := beq_self_eq_true _
  go_wp2_with (first | (refine (Num9_any _ _).mono ?_; rintro e wn ⟨rfl, rfl⟩) | (refine wpList_load_wK (by rfl) _ rfl g11 rfl S2 R1 ?_) | (refine wpList_load_wK (by rfl) _ rfl g14 rfl S2 R2 ?_) | (refine wpList_eqLK (by rfl) _ _ rfl S2 rfl rfl ?_))
  clear R1 R2
  refine (awake5 _).mono ?_
  rintro e w13 ⟨rfl, t13⟩
  have PT := Lib.hid (PT.out.pure t13)
  clear t13
  go_wp2
  go_ret
  exact ⟨rfl, PT.out⟩
end Go.Proofs.Ytmifchdmlbcclaa
