/- Chapter 22: messages there and back. -/
import Derived.Test.YtigkmdjdnkbdkaaMsg8
namespace Go.Proofs.Ytigkmdjdnkbdkaa
open Go.RowKit
set_option maxRecDepth 100000

theorem and63 (x : Int) : ∃ H : Nat, H ≤ 63 ∧ bits .and .i64 x 63 = (H : Int) := by
  refine ⟨(BitVec.ofInt 64 x &&& BitVec.ofInt 64 63).toNat, ?_, ?_⟩
  · rw [BitVec.toNat_and]
    exact Nat.le_trans Nat.and_le_right (by decide)
  · have h : (BitVec.ofInt 64 x &&& BitVec.ofInt 64 63).toNat ≤ 63 := by
      rw [BitVec.toNat_and]
      exact Nat.le_trans Nat.and_le_right (by decide)
    show IntKind.i64.wrap (((BitVec.ofInt 64 x &&& BitVec.ofInt 64 63).toNat : Nat) : Int) = _
    exact IntWalk.i64_in _ (by omega)
theorem rem_at (x : Int) (k : Nat) (hk : 1 ≤ k) : ∃ a : Nat, a < k ∧ (IntKind.u64.wrap x).tmod (k : Int) = (a : Int) := by
  have h0 : 0 ≤ IntKind.u64.wrap x := by rw [IntKind.wrap_u64]; omega
  obtain ⟨y, hy⟩ : ∃ y : Nat, IntKind.u64.wrap x = (y : Int) := ⟨(IntKind.u64.wrap x).toNat, by omega⟩
  refine ⟨y % k, Nat.mod_lt _ (by omega), ?_⟩
  rw [hy, Int.tmod_eq_emod_of_nonneg (by omega)]
  omega

theorem pMsg_more {x y : List UInt8} {v} (h : pMsg x = some (v, [])) : pMsg (x ++ y) = some (v, y) := by
  obtain ⟨ok, e⟩ := pMsg_reads.put _ _ _ h
  rw [List.append_nil] at e
  rw [e]
  exact pMsg_reads.of v y ok
theorem mparse_whole {s : List UInt8} {m : MsgP} (h : mparse s = some m) : ∃ v, pMsg (s.drop 2) = some (v, []) ∧ 2 ≤ s.length := by
  unfold mparse at h
  split at h
  case isFalse => cases h
  rename_i hc
  rw [Option.bind_eq_some_iff] at h
  obtain ⟨⟨v, r⟩, hx, he⟩ := h
  simp only at he
  split at he
  case isFalse => cases he
  rename_i hr
  obtain ⟨rfl, _⟩ := hr
  exact ⟨v, hx, hc.1⟩
/-- Of two texts, one the other's beginning, but one is a message. -/
theorem mparse_prefix {s t : List UInt8} {m m' : MsgP} (h : mparse s = some m) (h' : mparse (s ++ t) = some m') : t = [] := by
  obtain ⟨v, hv, hl⟩ := mparse_whole h
  obtain ⟨v', hv', _⟩ := mparse_whole h'
  rw [List.drop_append_of_le_length hl, pMsg_more hv] at hv'
  simp only [Option.some.injEq, Prod.mk.injEq] at hv'
  exact hv'.2
theorem mget_cut {a : List UInt8} {m : MsgP} (h : mparse a = some m) (k : Nat) (hk : k < a.length) : mgetV (a.take k) = (MsgP0, 2200) := by
  cases hp : mparse (a.take k) with
  | none => exact mgetN hp
  | some m' =>
    exfalso
    rw [← List.take_append_drop k a] at h
    have := mparse_prefix hp h
    have hl := congrArg List.length this
    rw [List.length_drop] at hl
    simp at hl
    omega
theorem mget_long {a t : List UInt8} {m : MsgP} (h : mparse a = some m) (ht : t ≠ []) : mgetV (a ++ t) = (MsgP0, 2200) := by
  cases hp : mparse (a ++ t) with
  | none => exact mgetN hp
  | some m' => exact absurd (mparse_prefix h hp) ht
theorem mput_cases (m : MsgP) : (mayM m = true ∧ mputV m = (msgB m, 0)) ∨ mputV m = ([], 2200) := by
  unfold mputV
  by_cases h : mayM m = true
  · exact .inl ⟨h, if_pos h⟩
  · exact .inr (if_neg h)
theorem mget_cases (s : List UInt8) : ((mgetV s).2 = 0 ∧ mputV (mgetV s).1 = (s, 0)) ∨ mgetV s = (MsgP0, 2200) := by
  unfold mgetV
  cases h : mparse s with
  | none => exact .inr rfl
  | some m =>
    obtain ⟨h1, h2, _⟩ := mparse_put h
    exact .inl ⟨rfl, by simp only; rw [mput_ok h1, h2]⟩

set_option maxHeartbeats 8000000 in
theorem messageBack_walk (m : Msg) (s : List UInt8) (cut : Int) (w : World) (hm : MsgOk w m) (hs : s.length ≤ 140737488351232) :
    Calls Try.prog 4 #[.agg (msgC m).toArray, .string (bstr s), .int .i64 cut] w fun e w' => e = .returned (.bool true) ∧ Pure w w' := by
  have hput := fun W (t : Pure w W) => mPut_any W m (hm.1.pure t)
  have hgs := fun W => mGet_any W s (by omega)
  have hmo := msgC_one hm.1
  have HM := Lib.hid hm
  have hsame := fun W m' (t : Pure w W) (h' : MsgAt W m') (hp : m.p = m'.p) => sameMsg_eq W m' m h' (hm.1.pure t) hp.symm
  obtain ⟨C, hC⟩ : ∃ C, C = msgC m := ⟨_, rfl⟩
  have hCl : C.length = 6 := by rw [hC]; rfl
  rw [← hC] at hput hmo ⊢
  have HC := Lib.hid hC
  have hCi : (Try.prog.info? 26).map (·.size) = some C.length := by rw [hCl]; exact infoM
  obtain ⟨ZM, hZM⟩ : ∃ Z, Z = msgC Msg0 := ⟨_, rfl⟩
  have HZL : ZM.length = 6 := by rw [hZM]; rfl
  have hzm := zeroM
  rw [← hZM] at hzm
  have HZM := Lib.hid hzm
  have HGS := Lib.hid hgs; have HSAME := Lib.hid hsame
  clear hzm hZM hC hm hgs hsame
  go_enter Try.func4, Try.ntmps4
  go_wp2_with (refine wpList_boxV rfl 26 _ rfl C rfl ?_)
  intro g3 w1 e1 c1 t1 s1
  have PT := Lib.hid t1; have D3 := Lib.hid c1
  clear e1 c1 t1 s1
  go_wp2_with fail
  refine (awake22 _).mono ?_
  rintro e w2 ⟨rfl, t2⟩
  have D3 := Lib.hid (t2.obj D3.out (fun e => e)); have PT := Lib.hid (PT.out.pure t2)
  clear t2
  have R3 := range_of_row D3.out
  have HPUT := Lib.hid (hput _ PT.out)
  clear hput
  rcases mput_cases m.p with ⟨hmay, hpv⟩ | hpv
  · rw [hpv] at HPUT
    have hpa := mparse_of hmay HM.out.1.fit
    have hga := mget_of hmay HM.out.1.fit
    obtain ⟨a, ha⟩ : ∃ a, a = msgB m.p := ⟨_, rfl⟩
    have hal : a.length ≤ 65536 := by unfold mayM at hmay; simp only [Bool.and_eq_true, decide_eq_true_eq] at hmay; rw [ha]; exact hmay.2
    have ha2 : 2 ≤ a.length := by rw [ha, ← msg_bytes]; simp
    rw [← ha] at HPUT hpa hga
    have hg1 := fun W => mGet_any W a (by omega)
    rw [hga] at hg1
    obtain ⟨n, hn⟩ : ∃ n, n = a.length := ⟨_, rfl⟩
    have hza : (bstr a).size = n := by rw [bstr_size, hn]
    obtain ⟨k, hk, hrem⟩ := rem_at cut n (by omega)
    have u1 : IntKind.u64.wrap (n : Int) = n := by rw [IntKind.wrap_u64]; omega
    have u2 : IntKind.i64.wrap (k : Int) = k := IntWalk.i64_in _ (by omega)
    have hx1 : (bstr a).extract 0 k = bstr (a.take k) := by rw [bstr_ext, List.drop_zero]
    have hg2 := fun W => mGet_any W (a.take k) (by rw [List.length_take]; omega)
    rw [mget_cut hpa k (by omega)] at hg2
    have hg3 := fun W => mGet_any W (a ++ [120]) (by simp; omega)
    rw [mget_long hpa (by simp)] at hg3
    obtain ⟨T1, hT1⟩ : ∃ T, T = a.take k := ⟨_, rfl⟩
    obtain ⟨T2, hT2⟩ : ∃ T, T = a ++ [120] := ⟨_, rfl⟩
    rw [← hT1] at hx1 hg2
    rw [← hT2] at hg3
    have aX : bstr a ++ (⟨#[120]⟩ : ByteArray) = bstr T2 := by rw [hT2]; exact bstr_app a [120]
    have zX : (bstr T2).size = n + 1 := by rw [bstr_size, hT2, List.length_append, hn]; rfl
    have HG1 := Lib.hid hg1; have HG2 := Lib.hid hg2; have HG3 := Lib.hid hg3
    have nz : ((n : Int) == 0) = false := by simp; omega
    have nz3 : ¬ (n : Int) = 0 := by omega
    have q0 : (0 : Int) ≤ k := by omega
    have q1 : (k : Int) ≤ n := by omega
    have nX : ¬ (9223372036854775807 < n + 1) := by omega
    clear hpv hga hpa hg1 hg2 hg3 hT1 hT2 hn hmay ha hk
    go_wp2_with (refine wpList_load_mid rfl 26 _ rfl g3 0 rfl C _ R3 Try.underlying26 rfl hCi ?_)
    refine (HPUT.out).mono ?_
    rintro e w3 ⟨rfl, t3⟩
    have D3 := Lib.hid (t3.obj D3.out (fun e => e)); have PT := Lib.hid (PT.out.pure t3)
    clear t3 R3 HPUT
    go_wp2_with fail
    refine (Num_any _ _).mono ?_
    rintro e u3 ⟨rfl, rfl⟩
    go_wp2_with fail
    refine (HG1.out _).mono ?_
    rintro e w4 ⟨ma, rfl, hma, ama, t4⟩
    have oma := msgC_one ama
    have D3 := Lib.hid (t4.obj D3.out (fun e => e)); have PT := Lib.hid (PT.out.pure t4)
    have Ama := Lib.hid ama
    obtain ⟨Cma, hCma⟩ : ∃ c, c = msgC ma := ⟨_, rfl⟩
    have lma : Cma.length = 6 := by rw [hCma]; rfl
    rw [← hCma] at oma ⊢
    have HCma := Lib.hid hCma
    have ima : (Try.prog.info? 26).map (·.size) = some Cma.length := by rw [lma]; exact infoM
    have Hma := Lib.hid hma
    clear t4 ama hCma hma
    go_wp2_with (refine wpList_allocZ rfl 26 rfl _ HZM.out ?_)
    intro g9 w5 e5 c5 t5 s5
    have lg9 : w.heap.size ≤ g9 := by have := PT.out.size; omega
    have lqg9 : w4.heap.size ≤ g9 := by omega
    have nD3g9 : g3 ≠ g9 := by have := (Array.getElem?_eq_some_iff.1 D3.out).1; omega
    have hp5 := t5
    clear s5 e5
    go_wp2_with (refine wpList_store_blk rfl 26 _ _ rfl g9 _ Cma _ rfl rfl c5 (by rw [List.size_toArray, HZL, lma]) ima oma ?_)
    intro w6 c6 t6 s6
    have hp6 : Pure w4 w6 := hp5.trans t6 fun q hq e => by omega
    have D3 := Lib.hid (hp6.obj D3.out (fun e => e)); have PT := Lib.hid (PT.out.pure hp6); have Ama := Lib.hid (Ama.out.pure hp6)
    have D9 := Lib.hid c6
    clear c5 c6 t6 t5 hp5 hp6 s6 lqg9
    go_wp2_with fail
    refine (HG2.out _).mono ?_
    rintro e w7 ⟨mb, rfl, hmb, amb, t7⟩
    have omb := msgC_one amb
    have D3 := Lib.hid (t7.obj D3.out (fun e => e)); have PT := Lib.hid (PT.out.pure t7); have Ama := Lib.hid (Ama.out.pure t7); have D9 := Lib.hid (t7.obj D9.out (fun e => e))
    have Amb := Lib.hid amb
    obtain ⟨Cmb, hCmb⟩ : ∃ c, c = msgC mb := ⟨_, rfl⟩
    have lmb : Cmb.length = 6 := by rw [hCmb]; rfl
    rw [← hCmb] at omb ⊢
    have HCmb := Lib.hid hCmb
    have imb : (Try.prog.info? 26).map (·.size) = some Cmb.length := by rw [lmb]; exact infoM
    have Hmb := Lib.hid hmb
    clear t7 amb hCmb hmb
    go_wp2_with (refine wpList_allocZ rfl 26 rfl _ HZM.out ?_)
    intro g11 w8 e8 c8 t8 s8
    have lg11 : w.heap.size ≤ g11 := by have := PT.out.size; omega
    have lqg11 : w7.heap.size ≤ g11 := by omega
    have nD3g11 : g3 ≠ g11 := by have := (Array.getElem?_eq_some_iff.1 D3.out).1; omega
    have nD9g11 : g9 ≠ g11 := by have := (Array.getElem?_eq_some_iff.1 D9.out).1; omega
    have hp8 := t8
    clear s8 e8
    go_wp2_with (refine wpList_store_blk rfl 26 _ _ rfl g11 _ Cmb _ rfl rfl c8 (by rw [List.size_toArray, HZL, lmb]) imb omb ?_)
    intro w9 c9 t9 s9
    have hp9 : Pure w7 w9 := hp8.trans t9 fun q hq e => by omega
    have D3 := Lib.hid (hp9.obj D3.out (fun e => e)); have PT := Lib.hid (PT.out.pure hp9); have Ama := Lib.hid (Ama.out.pure hp9); have D9 := Lib.hid (hp9.obj D9.out (fun e => e)); have Amb := Lib.hid (Amb.out.pure hp9)
    have D11 := Lib.hid c9
    clear c8 c9 t9 t8 hp8 hp9 s9 lqg11
    go_wp2_with fail
    refine (HG3.out _).mono ?_
    rintro e w10 ⟨mc, rfl, hmc, amc, t10⟩
    have omc := msgC_one amc
    have D3 := Lib.hid (t10.obj D3.out (fun e => e)); have PT := Lib.hid (PT.out.pure t10); have Ama := Lib.hid (Ama.out.pure t10); have D9 := Lib.hid (t10.obj D9.out (fun e => e)); have Amb := Lib.hid (Amb.out.pure t10); have D11 := Lib.hid (t10.obj D11.out (fun e => e))
    have Amc := Lib.hid amc
    obtain ⟨Cmc, hCmc⟩ : ∃ c, c = msgC mc := ⟨_, rfl⟩
    have lmc : Cmc.length = 6 := by rw [hCmc]; rfl
    rw [← hCmc] at omc ⊢
    have HCmc := Lib.hid hCmc
    have imc : (Try.prog.info? 26).map (·.size) = some Cmc.length := by rw [lmc]; exact infoM
    have Hmc := Lib.hid hmc
    clear t10 amc hCmc hmc
    go_wp2_with (refine wpList_allocZ rfl 26 rfl _ HZM.out ?_)
    intro g13 w11 e11 c11 t11 s11
    have lg13 : w.heap.size ≤ g13 := by have := PT.out.size; omega
    have lqg13 : w10.heap.size ≤ g13 := by omega
    have nD3g13 : g3 ≠ g13 := by have := (Array.getElem?_eq_some_iff.1 D3.out).1; omega
    have nD9g13 : g9 ≠ g13 := by have := (Array.getElem?_eq_some_iff.1 D9.out).1; omega
    have nD11g13 : g11 ≠ g13 := by have := (Array.getElem?_eq_some_iff.1 D11.out).1; omega
    have hp11 := t11
    clear s11 e11
    go_wp2_with (refine wpList_store_blk rfl 26 _ _ rfl g13 _ Cmc _ rfl rfl c11 (by rw [List.size_toArray, HZL, lmc]) imc omc ?_)
    intro w12 c12 t12 s12
    have hp12 : Pure w10 w12 := hp11.trans t12 fun q hq e => by omega
    have D3 := Lib.hid (hp12.obj D3.out (fun e => e)); have PT := Lib.hid (PT.out.pure hp12); have Ama := Lib.hid (Ama.out.pure hp12); have D9 := Lib.hid (hp12.obj D9.out (fun e => e)); have Amb := Lib.hid (Amb.out.pure hp12); have D11 := Lib.hid (hp12.obj D11.out (fun e => e)); have Amc := Lib.hid (Amc.out.pure hp12)
    have D13 := Lib.hid c12
    clear c11 c12 t12 t11 hp11 hp12 s12 lqg13
    go_wp2_with fail
    refine (Num_any _ _).mono ?_
    rintro e u50 ⟨rfl, rfl⟩
    have R9 := range_of_row D9.out; have R3 := range_of_row D3.out
    go_wp2_with (first | (refine wpList_load_mid_w (by rfl) 26 _ rfl g9 0 rfl Cma _ R9 Try.underlying26 rfl ima ?_) | (refine wpList_load_mid_w (by rfl) 26 _ rfl g3 0 rfl C _ R3 Try.underlying26 rfl hCi ?_))
    clear R9 R3
    have htb : ∀ e ∈ ma.es, e.p.tabs.length ≤ 4398046511104 := by
      have h1 : ma.es.map (·.p) = m.es.map (·.p) := by rw [Ama.out.same, HM.out.1.same, Hma.out]
      intro e he
      have h2 : e.p ∈ m.es.map (·.p) := by rw [← h1]; exact List.mem_map_of_mem he
      obtain ⟨e', he', h3⟩ := List.mem_map.1 h2
      rw [← h3]; exact HM.out.2 e' he'
    have hsm := HSAME.out _ ma PT.out Ama.out Hma.out.symm htb
    rw [← HCma.out, ← HC.out] at hsm
    refine hsm.mono ?_
    rintro e w60 ⟨rfl, t60⟩
    have D3 := Lib.hid (t60.obj D3.out (fun e => e)); have PT := Lib.hid (PT.out.pure t60); have Ama := Lib.hid (Ama.out.pure t60); have D9 := Lib.hid (t60.obj D9.out (fun e => e)); have Amb := Lib.hid (Amb.out.pure t60); have D11 := Lib.hid (t60.obj D11.out (fun e => e)); have Amc := Lib.hid (Amc.out.pure t60); have D13 := Lib.hid (t60.obj D13.out (fun e => e))
    clear t60 hsm htb
    go_wp2_with fail
    refine (Num_any _ _).mono ?_
    rintro e u61 ⟨rfl, rfl⟩
    go_wp2_with fail
    refine (Num_any _ _).mono ?_
    rintro e u62 ⟨rfl, rfl⟩
    clear aX zX hx1 hrem u1 u2
    go_wp2_with fail
    refine (HGS.out _).mono ?_
    rintro e w63 ⟨mz, rfl, hmz, amz, t63⟩
    have omz := msgC_one amz
    have D3 := Lib.hid (t63.obj D3.out (fun e => e)); have PT := Lib.hid (PT.out.pure t63); have Ama := Lib.hid (Ama.out.pure t63); have D9 := Lib.hid (t63.obj D9.out (fun e => e)); have Amb := Lib.hid (Amb.out.pure t63); have D11 := Lib.hid (t63.obj D11.out (fun e => e)); have Amc := Lib.hid (Amc.out.pure t63); have D13 := Lib.hid (t63.obj D13.out (fun e => e))
    have Amz := Lib.hid amz
    obtain ⟨Cmz, hCmz⟩ : ∃ c, c = msgC mz := ⟨_, rfl⟩
    have lmz : Cmz.length = 6 := by rw [hCmz]; rfl
    rw [← hCmz] at omz ⊢
    have HCmz := Lib.hid hCmz
    have imz : (Try.prog.info? 26).map (·.size) = some Cmz.length := by rw [lmz]; exact infoM
    have Hmz := Lib.hid hmz
    clear t63 amz hCmz hmz
    go_wp2_with (refine wpList_allocZ rfl 26 rfl _ HZM.out ?_)
    intro g15 w64 e64 c64 t64 s64
    have lg15 : w.heap.size ≤ g15 := by have := PT.out.size; omega
    have lqg15 : w63.heap.size ≤ g15 := by omega
    have nD3g15 : g3 ≠ g15 := by have := (Array.getElem?_eq_some_iff.1 D3.out).1; omega
    have nD9g15 : g9 ≠ g15 := by have := (Array.getElem?_eq_some_iff.1 D9.out).1; omega
    have nD11g15 : g11 ≠ g15 := by have := (Array.getElem?_eq_some_iff.1 D11.out).1; omega
    have nD13g15 : g13 ≠ g15 := by have := (Array.getElem?_eq_some_iff.1 D13.out).1; omega
    have hp64 := t64
    clear s64 e64
    go_wp2_with (refine wpList_store_blk rfl 26 _ _ rfl g15 _ Cmz _ rfl rfl c64 (by rw [List.size_toArray, HZL, lmz]) imz omz ?_)
    intro w65 c65 t65 s65
    have hp65 : Pure w63 w65 := hp64.trans t65 fun q hq e => by omega
    have D3 := Lib.hid (hp65.obj D3.out (fun e => e)); have PT := Lib.hid (PT.out.pure hp65); have Ama := Lib.hid (Ama.out.pure hp65); have D9 := Lib.hid (hp65.obj D9.out (fun e => e)); have Amb := Lib.hid (Amb.out.pure hp65); have D11 := Lib.hid (hp65.obj D11.out (fun e => e)); have Amc := Lib.hid (Amc.out.pure hp65); have D13 := Lib.hid (hp65.obj D13.out (fun e => e)); have Amz := Lib.hid (Amz.out.pure hp65)
    have D15 := Lib.hid c65
    clear c64 c65 t65 t64 hp64 hp65 s65 lqg15
    rcases mget_cases s with ⟨hz0, hzp⟩ | hz0
    · rw [← Hmz.out] at hzp
      generalize (mgetV s).2 = ez at *
      subst hz0
      have hpz := mPut_any _ mz Amz.out
      rw [hzp, ← HCmz.out] at hpz
      have HPZ := Lib.hid hpz
      clear hzp hpz
      go_wp2_with fail
      refine (Num_any _ _).mono ?_
      rintro e u90 ⟨rfl, rfl⟩
      have R15 := range_of_row D15.out
      go_wp2_with (refine wpList_load_mid rfl 26 _ rfl g15 0 rfl Cmz _ R15 Try.underlying26 rfl imz ?_)
      refine (HPZ.out).mono ?_
      rintro e w91 ⟨rfl, t91⟩
      have PT := Lib.hid (PT.out.pure t91)
      clear t91 R15 HPZ
      go_wp2_with fail
      refine (Num_any _ _).mono ?_
      rintro e u92 ⟨rfl, rfl⟩
      go_wp2
      go_ret
      exact ⟨by simp, PT.out⟩
    · have hk0 : mz.p.kind = 0 := by rw [Hmz.out, hz0]; rfl
      have k15 := (msg_at (m := mz) (by rw [← HCmz.out]; exact D15.out)).1
      rw [hk0] at k15
      have hz2 : (mgetV s).2 = 2200 := by rw [hz0]
      clear hk0 hz0
      go_wp2_with fail
      refine (Num_any _ _).mono ?_
      rintro e u90 ⟨rfl, rfl⟩
      go_wp2
      go_ret
      exact ⟨rfl, PT.out⟩
  · rw [hpv] at HPUT
    clear hpv
    go_wp2_with (refine wpList_load_mid rfl 26 _ rfl g3 0 rfl C _ R3 Try.underlying26 rfl hCi ?_)
    refine (HPUT.out).mono ?_
    rintro e w3 ⟨rfl, t3⟩
    have D3 := Lib.hid (t3.obj D3.out (fun e => e)); have PT := Lib.hid (PT.out.pure t3)
    clear t3 R3 HPUT
    go_wp2_with fail
    refine (Num_any _ _).mono ?_
    rintro e u3 ⟨rfl, rfl⟩
    go_wp2_with fail
    refine (HGS.out _).mono ?_
    rintro e w4 ⟨mz, rfl, hmz, amz, t4⟩
    have omz := msgC_one amz
    have D3 := Lib.hid (t4.obj D3.out (fun e => e)); have PT := Lib.hid (PT.out.pure t4)
    have Amz := Lib.hid amz
    obtain ⟨Cmz, hCmz⟩ : ∃ c, c = msgC mz := ⟨_, rfl⟩
    have lmz : Cmz.length = 6 := by rw [hCmz]; rfl
    rw [← hCmz] at omz ⊢
    have HCmz := Lib.hid hCmz
    have imz : (Try.prog.info? 26).map (·.size) = some Cmz.length := by rw [lmz]; exact infoM
    have Hmz := Lib.hid hmz
    clear t4 amz hCmz hmz
    go_wp2_with (refine wpList_allocZ rfl 26 rfl _ HZM.out ?_)
    intro g15 w5 e5 c5 t5 s5
    have lg15 : w.heap.size ≤ g15 := by have := PT.out.size; omega
    have lqg15 : w4.heap.size ≤ g15 := by omega
    have nD3g15 : g3 ≠ g15 := by have := (Array.getElem?_eq_some_iff.1 D3.out).1; omega
    have hp5 := t5
    clear s5 e5
    go_wp2_with (refine wpList_store_blk rfl 26 _ _ rfl g15 _ Cmz _ rfl rfl c5 (by rw [List.size_toArray, HZL, lmz]) imz omz ?_)
    intro w6 c6 t6 s6
    have hp6 : Pure w4 w6 := hp5.trans t6 fun q hq e => by omega
    have D3 := Lib.hid (hp6.obj D3.out (fun e => e)); have PT := Lib.hid (PT.out.pure hp6); have Amz := Lib.hid (Amz.out.pure hp6)
    have D15 := Lib.hid c6
    clear c5 c6 t6 t5 hp5 hp6 s6 lqg15
    rcases mget_cases s with ⟨hz0, hzp⟩ | hz0
    · rw [← Hmz.out] at hzp
      generalize (mgetV s).2 = ez at *
      subst hz0
      have hpz := mPut_any _ mz Amz.out
      rw [hzp, ← HCmz.out] at hpz
      have HPZ := Lib.hid hpz
      clear hzp hpz
      go_wp2_with fail
      refine (Num_any _ _).mono ?_
      rintro e u90 ⟨rfl, rfl⟩
      have R15 := range_of_row D15.out
      go_wp2_with (refine wpList_load_mid rfl 26 _ rfl g15 0 rfl Cmz _ R15 Try.underlying26 rfl imz ?_)
      refine (HPZ.out).mono ?_
      rintro e w91 ⟨rfl, t91⟩
      have PT := Lib.hid (PT.out.pure t91)
      clear t91 R15 HPZ
      go_wp2_with fail
      refine (Num_any _ _).mono ?_
      rintro e u92 ⟨rfl, rfl⟩
      go_wp2
      go_ret
      exact ⟨by simp, PT.out⟩
    · have hk0 : mz.p.kind = 0 := by rw [Hmz.out, hz0]; rfl
      have k15 := (msg_at (m := mz) (by rw [← HCmz.out]; exact D15.out)).1
      rw [hk0] at k15
      have hz2 : (mgetV s).2 = 2200 := by rw [hz0]
      clear hk0 hz0
      go_wp2_with fail
      refine (Num_any _ _).mono ?_
      rintro e u90 ⟨rfl, rfl⟩
      go_wp2
      go_ret
      exact ⟨rfl, PT.out⟩
end Go.Proofs.Ytigkmdjdnkbdkaa
