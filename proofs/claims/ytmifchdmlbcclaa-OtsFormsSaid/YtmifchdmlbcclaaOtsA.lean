/- What every program of chapter 4 answers that is one. -/
import Derived.Test.YtmifchdmlbcclaaOtsQ
namespace Go.Proofs.Ytmifchdmlbcclaa
open Go.RowKit

theorem wpList_load_mid_w4 {P : Program} {ops : Array Oper} {rest : List Oper} {op : Oper} {a : Act} {w : World} {Q : Exit → Act → World → Prop} (hw : Region.wanted op (yielded ops a.tmps) = true) (ty : TypeId) (x : Operand) (ho : op.op = .load ty x)
    (b o : Nat) (hx : a.eval x = .pointer (some ⟨b, o, none⟩)) (cs : List Value) (d : TypeDesc) (hc : w.rangeAt b o cs)
    (hu : P.underlying ty = some d) (hd : d.isRow = true) (hi : (P.info? ty).map (·.size) = some cs.length)
    (h : wpList P ops Q rest (a.put op.dst (.agg cs.toArray)) w) : wpList P ops Q (op :: rest) a w :=
  wpList_step fun K hK => by rw [if_pos hw]; exact wp_load_mid ty x ho b o hx cs d hc hu hd hi (hK _ _ h)

theorem eqg28 (w : World) (x y : Operand) (l m : List UInt8) : (eqGuard .eql 23 x y (hv l) (hv m)).run Try.prog w = .ok () w := by
  unfold eqGuard
  simp
theorem wpList_eql28 {ops : Array Oper} {rest : List Oper} {op : Oper} {a : Act} {w : World} {Q : Exit → Act → World → Prop} (hw : Region.wanted op (yielded ops a.tmps) = true) (x y : Operand) (ho : op.op = .binOp .eql 23 x y 23)
    (l m : List UInt8) (hl : l.length = 32) (hm : m.length = 32) (hx : a.eval x = hv l) (hy : a.eval y = hv m) (h : wpList Try.prog ops Q rest (a.put op.dst (.bool (l == m))) w) : wpList Try.prog ops Q (op :: rest) a w :=
  wpList_step fun K hK => by
    rw [if_pos hw]
    have hr : (do eqGuard .eql 23 x y (hv l) (hv m); binOp .eql 23 (hv l) (hv m) : Sem Value).run Try.prog w = .ok (.bool (l == m)) w := by
      rw [Sem.run_bind, eqg28, Result.andThen_ok, eq28 w hl hm]
    unfold Oper.wp execOp
    simp only [ho, hx, hy]
    rw [Sem.run_bind, hr]
    exact hK _ _ h
theorem wpList_same28 {ops : Array Oper} {rest : List Oper} {op : Oper} {a : Act} {w : World} {Q : Exit → Act → World → Prop} (hw : Region.wanted op (yielded ops a.tmps) = true) (x y : Operand) (ho : op.op = .binOp .eql 23 x y 23)
    (l : List UInt8) (hl : l.length = 32) (hx : a.eval x = hv l) (hy : a.eval y = hv l) (h : wpList Try.prog ops Q rest (a.put op.dst (.bool true)) w) : wpList Try.prog ops Q (op :: rest) a w :=
  wpList_eql28 hw x y ho l l hl hl hx hy (by rw [beq_self_eq_true]; exact h)

set_option maxRecDepth 100000 in
set_option maxHeartbeats 4000000 in
theorem awake4 (w : World) : Calls Try.prog 18 #[] w fun e w' => e = .returned (.bool true) ∧ Pure w w' := by
  obtain ⟨X, hXl, HZ⟩ := ex28
  have hu28 := Try.underlying23
  have hf1 := fun W => filled_any W [105, 100] 16 (by decide) (by decide)
  have hf2 := fun W => filled_any W [115, 101, 101, 100] 32 (by decide) (by decide)
  have l1 := filledV_length [105, 100] 16
  have l2 := filledV_length [115, 101, 101, 100] 32
  generalize filledV [105, 100] 16 = id at hf1 l1
  generalize filledV [115, 101, 101, 100] 32 = seed at hf2 l2
  have hp := fun W => Public_3 W id seed 5 l1 (by decide) l2
  have hs := fun W => Sign_3 W id seed [109] 5 l1 (by decide) l2 (by decide)
  have hb := ots_back 3 4 67 4 (placeV id 5) seed [109]
  have hk := otsSignV_kind3 (placeV id 5) seed [109]
  have hPl : (otsPubV 4 67 (placeV id 5) seed).length = 32 := shaV_length _
  generalize otsSignV 3 4 67 4 (placeV id 5) seed [109] = SG at hs hb hk
  have hc := fun W => Candidate_3 W id [109] SG 5 l1 (by decide) (by decide) hk.2 hk.1
  rw [hb] at hc
  generalize otsPubV 4 67 (placeV id 5) seed = P at hp hc hPl
  have hpb := fun W => Public_bad W 9 id seed 5 (by omega) (fun h => absurd h.1 (by decide))
  have hcb := fun W => Candidate_bad W id [109] [] 5 (by omega) (by decide) (fun h => absurd h.1 (by decide))
  have sP := fun V => same28 V hPl
  obtain ⟨n, hn⟩ : ∃ n, n = 2180 := ⟨_, rfl⟩
  have zS : (bstr SG).size = n := by rw [bstr_size, hk.2, hn]
  have q1 : ((n : Int) == 2180) = true := by rw [hn]; rfl
  have q2 : (n == 2180) = true := by rw [hn]; rfl
  clear hn
  have h32 : (List.replicate 32 (0 : UInt8)).length = 32 := by simp
  generalize List.replicate 32 (0 : UInt8) = ZH at hpb hcb h32
  have HF1 := Lib.hid hf1; have HF2 := Lib.hid hf2; have HP := Lib.hid hp; have HS := Lib.hid hs; have HC := Lib.hid hc; have HPB := Lib.hid hpb; have HCB := Lib.hid hcb
  clear hf1 hf2 hp hs hc hpb hcb hb hk
  have PT := Lib.hid (Turn.refl (fun _ => False) w)
  go_enter Try.func18, Try.ntmps18
  go_wp2_with fail
  refine (HF1.out _).mono ?_
  rintro e w1 ⟨rfl, t1⟩
  have PT := Lib.hid (PT.out.pure t1)
  clear t1
  go_wp2_with fail
  refine (HF2.out _).mono ?_
  rintro e w2 ⟨rfl, t2⟩
  have PT := Lib.hid (PT.out.pure t2)
  clear t2
  go_wp2_with fail
  refine (HP.out _).mono ?_
  rintro e w3 ⟨rfl, t3⟩
  have PT := Lib.hid (PT.out.pure t3)
  clear t3
  go_wp2_with (refine wpList_allocZ rfl 23 rfl X HZ.out ?_)
  intro g3 x4 e4 c4 v4 s4
  have lg3 : w.heap.size ≤ g3 := by have := PT.out.size; omega
  skip
  skip
  clear e4
  go_wp2_with (refine wpList_store_blk rfl 23 _ _ rfl g3 _ (u8s P) _ rfl rfl c4 (size28 hXl hPl) (info28_l hPl) (u8s_one _) ?_)
  intro y4 d4 u4 _
  have PT := Lib.hid ((PT.out.pure v4).trans u4 fun q hq e => by omega : Pure w y4); have D3 := Lib.hid d4
  clear c4 v4 s4 d4 u4
  go_wp2_with fail
  refine (HS.out _).mono ?_
  rintro e w5 ⟨rfl, t5⟩
  have PT := Lib.hid (PT.out.pure t5)
  have D3 := Lib.hid (t5.obj D3.out (fun e => e))
  clear t5
  go_wp2_with fail
  refine (HC.out _).mono ?_
  rintro e w6 ⟨rfl, t6⟩
  have PT := Lib.hid (PT.out.pure t6)
  have D3 := Lib.hid (t6.obj D3.out (fun e => e))
  clear t6
  go_wp2_with (refine wpList_allocZ rfl 23 rfl X HZ.out ?_)
  intro g7 x7 e7 c7 v7 s7
  have lg7 : w.heap.size ≤ g7 := by have := PT.out.size; omega
  have mg7 : g3 < g7 := by have := (Array.getElem?_eq_some_iff.1 D3.out).1; omega
  skip
  clear e7
  go_wp2_with (refine wpList_store_blk rfl 23 _ _ rfl g7 _ (u8s P) _ rfl rfl c7 (size28 hXl hPl) (info28_l hPl) (u8s_one _) ?_)
  intro y7 d7 u7 _
  have PT := Lib.hid ((PT.out.pure v7).trans u7 fun q hq e => by omega : Pure w y7); have D7 := Lib.hid d7; have D3 := Lib.hid (u7.obj (v7.obj D3.out (fun e => e)) (by omega))
  clear c7 v7 s7 d7 u7
  go_wp2_with fail
  refine (HPB.out _).mono ?_
  rintro e w8 ⟨rfl, t8⟩
  have PT := Lib.hid (PT.out.pure t8)
  have D3 := Lib.hid (t8.obj D3.out (fun e => e))
  have D7 := Lib.hid (t8.obj D7.out (fun e => e))
  clear t8
  go_wp2_with (refine wpList_allocZ rfl 23 rfl X HZ.out ?_)
  intro g9 x9 e9 c9 v9 s9
  have lg9 : w.heap.size ≤ g9 := by have := PT.out.size; omega
  have mg9 : g3 < g9 := by have := (Array.getElem?_eq_some_iff.1 D3.out).1; omega
  have og9 : g7 < g9 := by have := (Array.getElem?_eq_some_iff.1 D7.out).1; omega
  clear e9
  go_wp2_with (refine wpList_store_blk rfl 23 _ _ rfl g9 _ (u8s ZH) _ rfl rfl c9 (size28 hXl h32) (info28_l h32) (u8s_one _) ?_)
  intro y9 d9 u9 _
  have PT := Lib.hid ((PT.out.pure v9).trans u9 fun q hq e => by omega : Pure w y9); have D9 := Lib.hid d9; have D3 := Lib.hid (u9.obj (v9.obj D3.out (fun e => e)) (by omega)); have D7 := Lib.hid (u9.obj (v9.obj D7.out (fun e => e)) (by omega))
  clear c9 v9 s9 d9 u9
  go_wp2_with fail
  refine (HCB.out _).mono ?_
  rintro e w10 ⟨rfl, t10⟩
  have PT := Lib.hid (PT.out.pure t10)
  have D3 := Lib.hid (t10.obj D3.out (fun e => e))
  have D7 := Lib.hid (t10.obj D7.out (fun e => e))
  clear t10
  go_wp2_with (refine wpList_allocZ rfl 23 rfl X HZ.out ?_)
  intro g11 x11 e11 c11 v11 s11
  have lg11 : w.heap.size ≤ g11 := by have := PT.out.size; omega
  have mg11 : g3 < g11 := by have := (Array.getElem?_eq_some_iff.1 D3.out).1; omega
  have og11 : g7 < g11 := by have := (Array.getElem?_eq_some_iff.1 D7.out).1; omega
  clear e11
  go_wp2_with (refine wpList_store_blk rfl 23 _ _ rfl g11 _ (u8s ZH) _ rfl rfl c11 (size28 hXl h32) (info28_l h32) (u8s_one _) ?_)
  intro y11 d11 u11 _
  have PT := Lib.hid ((PT.out.pure v11).trans u11 fun q hq e => by omega : Pure w y11); have D11 := Lib.hid d11; have D3 := Lib.hid (u11.obj (v11.obj D3.out (fun e => e)) (by omega)); have D7 := Lib.hid (u11.obj (v11.obj D7.out (fun e => e)) (by omega))
  clear c11 v11 s11 d11 u11
  have E3 := Lib.hid (range_of_row D3.out); have E7 := Lib.hid (range_of_row D7.out)
  clear HF1 HF2 HP HS HC HPB HCB D3 D7 D9 D11
  go_wp2_with (first | (refine wpList_load_mid_w4 (by rfl) 23 _ rfl g7 0 rfl (u8s P) _ E7.out hu28 rfl (info28_l hPl) ?_) | (refine wpList_load_mid_w4 (by rfl) 23 _ rfl g3 0 rfl (u8s P) _ E3.out hu28 rfl (info28_l hPl) ?_) | (refine wpList_same28 (by rfl) _ _ rfl P hPl rfl rfl ?_))
  refine (Num9_any _ 0).mono ?_
  rintro e wn ⟨rfl, rfl⟩
  go_wp2_with (first | (refine wpList_load_mid_w4 (by rfl) 23 _ rfl g7 0 rfl (u8s P) _ E7.out hu28 rfl (info28_l hPl) ?_) | (refine wpList_load_mid_w4 (by rfl) 23 _ rfl g3 0 rfl (u8s P) _ E3.out hu28 rfl (info28_l hPl) ?_) | (refine wpList_same28 (by rfl) _ _ rfl P hPl rfl rfl ?_))
  refine (Num9_any _ 0).mono ?_
  rintro e wn ⟨rfl, rfl⟩
  go_wp2_with (first | (refine wpList_load_mid_w4 (by rfl) 23 _ rfl g7 0 rfl (u8s P) _ E7.out hu28 rfl (info28_l hPl) ?_) | (refine wpList_load_mid_w4 (by rfl) 23 _ rfl g3 0 rfl (u8s P) _ E3.out hu28 rfl (info28_l hPl) ?_) | (refine wpList_same28 (by rfl) _ _ rfl P hPl rfl rfl ?_))
  refine (Num9_any _ 0).mono ?_
  rintro e wn ⟨rfl, rfl⟩
  go_wp2_with (first | (refine wpList_load_mid_w4 (by rfl) 23 _ rfl g7 0 rfl (u8s P) _ E7.out hu28 rfl (info28_l hPl) ?_) | (refine wpList_load_mid_w4 (by rfl) 23 _ rfl g3 0 rfl (u8s P) _ E3.out hu28 rfl (info28_l hPl) ?_) | (refine wpList_same28 (by rfl) _ _ rfl P hPl rfl rfl ?_))
  refine (Num9_any _ 400).mono ?_
  rintro e wn ⟨rfl, rfl⟩
  go_wp2_with (first | (refine wpList_load_mid_w4 (by rfl) 23 _ rfl g7 0 rfl (u8s P) _ E7.out hu28 rfl (info28_l hPl) ?_) | (refine wpList_load_mid_w4 (by rfl) 23 _ rfl g3 0 rfl (u8s P) _ E3.out hu28 rfl (info28_l hPl) ?_) | (refine wpList_same28 (by rfl) _ _ rfl P hPl rfl rfl ?_))
  refine (Num9_any _ 400).mono ?_
  rintro e wn ⟨rfl, rfl⟩
  go_wp2
  go_ret
  exact ⟨rfl, PT.out⟩
end Go.Proofs.Ytmifchdmlbcclaa
