/- Chapter 22: messages in memory; lists are written. -/
import Derived.Test.YtigkmdjdnkbdkaaMsgP
import Derived.Test.YtigkmdjdnkbdkaaEnt6
namespace Go.Proofs.Ytigkmdjdnkbdkaa
open Go.RowKit
set_option maxRecDepth 100000

/-- Texts, each in one cell. -/
def txtC (t : List UInt8) : List Value := [.string (bstr t)]
/-- A message as it lies. -/
structure Msg where
  p : MsgP
  es : List Ent
  entV : Value
  wantV : Value
  objV : Value
def msgC (m : Msg) : List Value := [.int .i64 m.p.kind, .int .i64 m.p.user, .int .i64 m.p.src, m.entV, m.wantV, m.objV]
/-- Entries in a row. -/
structure EntsAt (w : World) (v : Value) (es : List Ent) : Prop where
  row : Rows entC 37 w v es
  each : ∀ e ∈ es, EntAt w e ∧ e.p.sign.length ≤ 140737488351232
  len : es.length ≤ 4398046511104
structure MsgAt (w : World) (m : Msg) : Prop where
  ents : EntsAt w m.entV m.es
  same : m.es.map (·.p) = m.p.ents
  wants : Rows u8s 32 w m.wantV m.p.wants
  wlen : m.p.wants.length ≤ 4398046511104
  objs : Rows txtC 1 w m.objV m.p.objs
  olen : m.p.objs.length ≤ 8796093022208
  obj : ∀ t ∈ m.p.objs, t.length ≤ 140737488351232
theorem EntsAt.pure {w w' : World} {v : Value} {es : List Ent} (h : EntsAt w v es) (t : Pure w w') : EntsAt w' v es := ⟨h.row.pure t, fun e he => ⟨(h.each e he).1.pure t, (h.each e he).2⟩, h.len⟩
theorem MsgAt.pure {w w' : World} {m : Msg} (h : MsgAt w m) (t : Pure w w') : MsgAt w' m := ⟨h.ents.pure t, h.same, h.wants.pure t, h.wlen, h.objs.pure t, h.olen, h.obj⟩
theorem MsgAt.fit {w : World} {m : Msg} (h : MsgAt w m) : m.p.fit := by
  refine ⟨fun e he => ?_, fun t ht => by have := h.wants.len t ht; rwa [u8s_length] at this⟩
  rw [← h.same] at he
  obtain ⟨E, hE, rfl⟩ := List.mem_map.1 he
  exact (h.ents.each E hE).1.fit
theorem Rows.at {α : Type} {cells : α → List Value} {size : Nat} {w : World} {v : Value} {xs : List α} (h : Rows cells size w v xs) : ∃ ao cap, v = .slice ao xs.length cap := by obtain ⟨ao, cap, h1, _⟩ := h; exact ⟨ao, cap, h1⟩
theorem msg_at {m : Msg} {W : World} {g : Nat} (hg : W.heap[g]? = some (.cells (msgC m).toArray 26 (0, 0))) : W.cell? ⟨g, 0, none⟩ = some (.int .i64 m.p.kind) ∧ W.cell? ⟨g, 1, none⟩ = some (.int .i64 m.p.user) ∧ W.cell? ⟨g, 2, none⟩ = some (.int .i64 m.p.src) ∧ W.cell? ⟨g, 3, none⟩ = some m.entV ∧ W.cell? ⟨g, 4, none⟩ = some m.wantV ∧ W.cell? ⟨g, 5, none⟩ = some m.objV := by
  refine ⟨?_, ?_, ?_, ?_, ?_, ?_⟩ <;> (rw [cell_of_row W g _ _ _ _ hg]; rfl)
theorem wrAll_at {α : Type} (f : List UInt8 → α → Int × List UInt8) (l : List α) (b : List UInt8) (j : Nat) (x : α) (h : l[j]? = some x) : wrAll f (l.drop j) b = if (f b x).1 = 0 then wrAll f (l.drop (j + 1)) (f b x).2 else f b x := by
  obtain ⟨hj, rfl⟩ := List.getElem?_eq_some_iff.1 h
  rw [List.drop_eq_getElem_cons hj, wrAll]
theorem WText_k {w0 w : World} {g K : Nat} {bs : List UInt8} (t : List UInt8) (s : Int) (h : OwnK 87 w0 w g bs K) (ht : t.length ≤ 4611686018427387904) (hK : K < w.heap.size) :
    Calls Try.prog 42 #[.pointer (some ⟨g, 0, none⟩), .string (bstr t), .int .i64 s] w fun e w' =>
      e = .returned (.int .i64 (wrText bs t s).1) ∧ OwnK 87 w0 w' g (wrText bs t s).2 K ∧ ∀ ob, w.heap[K]? = some ob → w'.heap[K]? = some ob := by
  obtain ⟨v, h1, h2, h3⟩ := h
  exact (WText_any w g v bs t s h1 ht).mono fun e w' ⟨he, hw⟩ => ⟨he, OwnK.wrote h2 h3 hK hw⟩

set_option maxHeartbeats 2000000 in
theorem put2_any (w0 w : World) (g K : Nat) (bs t : List UInt8) (h : OwnK 87 w0 w g bs K) (hK : WrCell w K g) (ht : t.length ≤ 4611686018427387904) :
    Calls Try.prog 47 #[.string (bstr t), .pointer (some ⟨K, 0, none⟩)] w fun e w' => e = .returned (.int .i64 (wrT2 bs t).1) ∧ OwnK 87 w0 w' g (wrT2 bs t).2 K ∧ WrCell w' K g := by
  have k1 := hK.at
  have HK := Lib.hid hK; have HO := Lib.hid h
  clear h hK
  go_enter Try.func47, Try.ntmps47
  go_wp2_with fail
  refine (WText_k t 2 HO.out ht HK.out.lt).mono ?_
  rintro e w1 ⟨rfl, o1, s1⟩
  have HO := Lib.hid o1; have HK := Lib.hid (s1 _ HK.out)
  clear o1 s1 k1
  go_wp2
  go_ret
  exact ⟨rfl, HO.out, HK.out⟩

set_option maxHeartbeats 2000000 in
theorem put1_any (w0 w : World) (g K : Nat) (bs : List UInt8) (e : Ent) (h : OwnK 87 w0 w g bs K) (hK : WrCell w K g) (he : EntAt w e) (hs : e.p.sign.length ≤ 140737488351232) :
    Calls Try.prog 40 #[.agg (entC e).toArray, .pointer (some ⟨K, 0, none⟩)] w fun x w' => x = .returned (.int .i64 (wrEnt bs e.p).1) ∧ OwnK 87 w0 w' g (wrEnt bs e.p).2 K ∧ WrCell w' K g := by
  have HPUT := Lib.hid (fun W (t : Pure w W) => eput_any W e (he.pure t) (by omega))
  have hCl := entC_length he.root
  have hwe : wrEnt bs e.p = if (eputV e.p).2 = 0 then wrT2 bs (eputV e.p).1 else (1900, bs) := rfl
  have hbl : (eputV e.p).1.length ≤ 4611686018427387904 := by
    rw [eputV_ok]
    split
    · rename_i ho
      have := entB_length ho he.fit
      simp only; omega
    · simp
  have her : (eputV e.p).2 = 0 ∨ (eputV e.p).2 = 1900 := by rw [eputV_ok]; split <;> simp
  obtain ⟨C, hC⟩ : ∃ C, C = entC e := ⟨_, rfl⟩
  rw [← hC] at hCl HPUT ⊢
  have hCi : (Try.prog.info? 47).map (·.size) = some C.length := by rw [infoE, hCl]
  have HCI := Lib.hid hCi; have HK := Lib.hid hK; have HO := Lib.hid h; have HWE := Lib.hid hwe
  generalize eputV e.p = P at *
  obtain ⟨b, er⟩ := P
  simp only at her hbl
  clear hC hCi h hK hwe he hs
  go_enter Try.func40, Try.ntmps40
  go_wp2_with (refine wpList_boxV rfl 47 _ rfl C rfl ?_)
  intro g1 w1 e1 c1 t1 s1
  have HO := Lib.hid (HO.out.next t1); have HK : Hid (WrCell w1 K g) := Lib.hid (t1.obj HK.out (fun e => e)); have PT := Lib.hid t1; have R := Lib.hid (range_of_row c1)
  clear c1 t1 e1 s1
  go_wp2_with (refine wpList_load_mid rfl 47 _ rfl g1 0 rfl C _ R.out Try.underlying47 rfl HCI.out ?_)
  refine (HPUT.out w1 PT.out).mono ?_
  rintro x w2 ⟨rfl, t2⟩
  have HO := Lib.hid (HO.out.next t2); have HK : Hid (WrCell w2 K g) := Lib.hid (t2.obj HK.out (fun e => e))
  clear t2 R PT
  rcases her with rfl | rfl
  · have HWE : Hid (wrEnt bs e.p = wrText bs b 2) := Lib.hid (by rw [HWE.out, if_pos rfl]; rfl)
    have k1 := HK.out.at
    go_wp2_with fail
    refine (WText_k b 2 HO.out hbl HK.out.lt).mono ?_
    rintro x w3 ⟨rfl, o3, s3⟩
    have HO := Lib.hid o3; have HK : Hid (WrCell w3 K g) := Lib.hid (s3 _ HK.out)
    clear o3 s3 k1
    generalize wrText bs b 2 = PP at *
    go_wp2
    go_ret
    rw [HWE.out]
    exact ⟨rfl, HO.out, HK.out⟩
  · have HWE : Hid (wrEnt bs e.p = (1900, bs)) := Lib.hid (by rw [HWE.out, if_neg (by simp)])
    go_wp2
    go_ret
    rw [HWE.out]
    exact ⟨rfl, HO.out, HK.out⟩
theorem cell1 {w : World} {b o j : Nat} {v : Value} (h : w.rangeAt b (o + j * 1) [v]) : w.cell? ⟨b, o + j, none⟩ = some v := by
  have := h 0 v rfl
  simpa using this

set_option maxHeartbeats 4000000 in
theorem eachT_any (w0 w : World) (g K : Nat) (bs : List UInt8) (v : Value) (l : List (List UInt8)) (hv : Rows txtC 1 w0 v l) (h : OwnK 87 w0 w g bs K) (hK : WrCell w K g) (hb : ∀ t ∈ l, t.length ≤ 140737488351232) (hn : l.length ≤ 8796093022208) :
    Calls Try.prog 65 #[v, .func (.func 47) #[] #[.pointer (some ⟨K, 0, none⟩)]] w fun e w' => e = .returned (.int .i64 (wrAll wrT2 (l) bs).1) ∧ OwnK 87 w0 w' g (wrAll wrT2 (l) bs).2 K ∧ WrCell w' K g := by
  obtain ⟨ao, cap, rfl, hcap, hel, hsz⟩ := hv
  have HBB := Lib.hid hb
  clear hb
  have HEL := Lib.hid hel; have HSZ := Lib.hid hsz; have HK := Lib.hid hK; have HO := Lib.hid h
  obtain ⟨n, hnn⟩ : ∃ n, n = l.length := ⟨_, rfl⟩
  have HN := Lib.hid hnn
  rw [← hnn] at hn hcap ⊢
  obtain ⟨ll, hll⟩ : ∃ ll, ll = l := ⟨_, rfl⟩
  rw [← hll]
  have HLL := Lib.hid hll
  obtain ⟨RES, hRES⟩ : ∃ r, r = wrAll wrT2 ll bs := ⟨_, rfl⟩
  rw [← hRES]
  have HRES := Lib.hid hRES
  clear hel hsz hK h hnn hll hRES
  go_enter Try.func65, Try.ntmps65
  go_wp2
  go_loopw [10] (fun i wr => ∃ (j : Nat) (b : List UInt8), j ≤ n ∧ i = .int .i64 (j : Int) ∧ Hid (OwnK 87 w0 wr g b K) ∧ Hid (WrCell wr K g) ∧ Hid (RES = wrAll wrT2 (ll.drop j) b)) (fun i _ => n - (intOf i).toNat)
  case atStart => exact ⟨0, bs, Nat.zero_le _, rfl, HO, HK, Lib.hid (by rw [HRES.out, List.drop_zero])⟩
  case round =>
    obtain ⟨j, b, hj, rfl, HO, HK, HX⟩ := hrel
    by_cases hlt : j < n
    · have hjl : j < l.length := by have := HN.out; omega
      have q1 : (j : Int) < n := by omega
      have q0 : (0 : Int) ≤ j := by omega
      obtain ⟨x, hx⟩ : ∃ x, l[j]? = some x := ⟨l[j], List.getElem?_eq_getElem hjl⟩
      have hxm := List.mem_of_getElem? hx
      obtain ⟨bb, o, hao, hr⟩ := HEL.out (fun e => by rw [e] at hjl; simp at hjl)
      have R := Lib.hid (HO.out.own.pure.range (rowOf_at l o j x hx hr HSZ.out) (fun e => e))
      subst hao
      have hst : RES = if (wrT2 b x).1 = 0 then wrAll wrT2 (ll.drop (j + 1)) (wrT2 b x).2 else wrT2 b x := by
        rw [HX.out]
        exact wrAll_at _ _ _ _ _ (by rw [HLL.out]; exact hx)
      have HST := Lib.hid hst
      have i1 : IntKind.i64.wrap ((j : Int) + 1) = ((j + 1 : Nat) : Int) := by rw [IntWalk.i64_in _ (by omega)]; omega
      have I1 := Lib.hid i1
      have hxb := HBB.out x hxm
      have HCALL := Lib.hid (fun W (O : OwnK 87 w0 W g b K) C => put2_any w0 W g K b x O C (by omega))
      clear hxm
      clear hst i1 hjl hx hr
      have ca := cell1 R.out
      clear R
      have HB1 := Lib.hid (HCALL.out wr HO.out HK.out)
      go_wp2_with fail
      refine (HB1.out).mono ?_
      rintro e w3 ⟨rfl, o3, s3⟩
      have HO := Lib.hid o3; have HK := Lib.hid s3
      clear o3 s3 HB1
      generalize wrT2 b x = P at *
      obtain ⟨er, b2⟩ := P
      simp only at HO
      by_cases h0 : er = 0
      · subst h0
        have HX : Hid (RES = wrAll wrT2 (ll.drop (j + 1)) b2) := Lib.hid (by rw [HST.out, if_pos rfl])
        have i1 := I1.out
        go_wp2
        exact ⟨⟨j + 1, b2, by omega, by first | rfl | trivial, HO, HK, HX⟩, by simp [intOf]; omega⟩
      · have HX : Hid (RES = (er, b2)) := Lib.hid (by rw [HST.out, if_neg h0])
        have q5 : (er != 0) = true := by simpa using h0
        clear h0
        go_wp2
        go_ret
        rw [HX.out]
        exact ⟨rfl, HO.out, HK.out⟩
    · obtain rfl : j = n := by omega
      have q1 : ¬ ((j : Int) < j) := by omega
      have HX : Hid (RES = (0, b)) := Lib.hid (by rw [HX.out, List.drop_of_length_le (by rw [HLL.out]; have := HN.out; simp; omega), wrAll])
      go_wp2
      go_ret
      rw [HX.out]
      exact ⟨rfl, HO.out, HK.out⟩

set_option maxHeartbeats 4000000 in
theorem eachH_any (w0 w : World) (g K : Nat) (bs : List UInt8) (v : Value) (l : List (List UInt8)) (hv : Rows u8s 32 w0 v l) (h : OwnK 87 w0 w g bs K) (hK : WrCell w K g) (hn : l.length ≤ 8796093022208) :
    Calls Try.prog 64 #[v, .func (.func 45) #[.pointer (some ⟨g, 0, none⟩)] #[]] w fun e w' => e = .returned (.int .i64 (wrAll wrPut (l) bs).1) ∧ OwnK 87 w0 w' g (wrAll wrPut (l) bs).2 K ∧ WrCell w' K g := by
  obtain ⟨X, hXl, HZ⟩ := ex28
  obtain ⟨ao, cap, rfl, hcap, hel, hsz⟩ := hv
  have HEL := Lib.hid hel; have HSZ := Lib.hid hsz; have HK := Lib.hid hK; have HO := Lib.hid h
  obtain ⟨n, hnn⟩ : ∃ n, n = l.length := ⟨_, rfl⟩
  have HN := Lib.hid hnn
  rw [← hnn] at hn hcap ⊢
  obtain ⟨ll, hll⟩ : ∃ ll, ll = l := ⟨_, rfl⟩
  rw [← hll]
  have HLL := Lib.hid hll
  obtain ⟨RES, hRES⟩ : ∃ r, r = wrAll wrPut ll bs := ⟨_, rfl⟩
  rw [← hRES]
  have HRES := Lib.hid hRES
  clear hel hsz hK h hnn hll hRES
  go_enter Try.func64, Try.ntmps64
  go_wp2
  go_loopw [10] (fun i wr => ∃ (j : Nat) (b : List UInt8), j ≤ n ∧ i = .int .i64 (j : Int) ∧ Hid (OwnK 87 w0 wr g b K) ∧ Hid (WrCell wr K g) ∧ Hid (RES = wrAll wrPut (ll.drop j) b)) (fun i _ => n - (intOf i).toNat)
  case atStart => exact ⟨0, bs, Nat.zero_le _, rfl, HO, HK, Lib.hid (by rw [HRES.out, List.drop_zero])⟩
  case round =>
    obtain ⟨j, b, hj, rfl, HO, HK, HX⟩ := hrel
    by_cases hlt : j < n
    · have hjl : j < l.length := by have := HN.out; omega
      have q1 : (j : Int) < n := by omega
      have q0 : (0 : Int) ≤ j := by omega
      obtain ⟨x, hx⟩ : ∃ x, l[j]? = some x := ⟨l[j], List.getElem?_eq_getElem hjl⟩
      have hxm := List.mem_of_getElem? hx
      obtain ⟨bb, o, hao, hr⟩ := HEL.out (fun e => by rw [e] at hjl; simp at hjl)
      have R := Lib.hid (HO.out.own.pure.range (rowOf_at l o j x hx hr HSZ.out) (fun e => e))
      subst hao
      have hst : RES = if (wrPut b x).1 = 0 then wrAll wrPut (ll.drop (j + 1)) (wrPut b x).2 else wrPut b x := by
        rw [HX.out]
        exact wrAll_at _ _ _ _ _ (by rw [HLL.out]; exact hx)
      have HST := Lib.hid hst
      have i1 : IntKind.i64.wrap ((j : Int) + 1) = ((j + 1 : Nat) : Int) := by rw [IntWalk.i64_in _ (by omega)]; omega
      have I1 := Lib.hid i1
      have hxl : x.length = 32 := by have := HSZ.out x hxm; rwa [u8s_length] at this
      have HCALL := Lib.hid (fun W (O : OwnK 87 w0 W g b K) (C : WrCell W K g) => (WHash_k x O hxl C.lt).mono (fun e w' (hh : e = .returned (.int .i64 (wrPut b x).1) ∧ OwnK 87 w0 w' g (wrPut b x).2 K ∧ _) => (⟨hh.1, hh.2.1, hh.2.2 _ C⟩ : e = .returned (.int .i64 (wrPut b x).1) ∧ OwnK 87 w0 w' g (wrPut b x).2 K ∧ WrCell w' K g)))
      obtain ⟨CX, hCX⟩ : ∃ c, c = u8s x := ⟨_, rfl⟩
      have hco : ∀ v ∈ CX, v.oneCell' = true := by rw [hCX]; exact u8s_one _
      have hcl : CX.length = 32 := by rw [hCX, u8s_length, hxl]
      have hci : (Try.prog.info? 45).map (·.size) = some CX.length := by rw [hCX]; exact info28_l hxl
      simp only [hv, ← hCX] at HCALL R
      clear hxm hCX
      clear hst i1 hjl hx hr
      go_wp2_with (first | (refine wpList_load_mid rfl 45 _ rfl bb (o + j * 32) rfl CX _ R.out Try.underlying45 rfl hci ?_) | (refine wpList_allocZ rfl 45 rfl X HZ.out ?_))
      intro g6 w1 e1 c1 t1 s1
      have l6 : wr.heap.size ≤ g6 := by omega
      clear e1 s1
      go_wp2_with (refine wpList_store_blk rfl 45 _ _ rfl g6 _ CX _ rfl rfl c1 (by rw [List.size_toArray, hXl, hcl]) hci hco ?_)
      intro w2 d2 t2 _
      have hp : Pure wr w2 := t1.trans t2 fun q hq e => by omega
      have HO := Lib.hid (HO.out.next hp); have HK : Hid (WrCell w2 K g) := Lib.hid (hp.obj HK.out (fun e => e))
      have R6 := range_of_row d2
      have hb1 := HCALL.out w2 HO.out HK.out
      have HB1 := Lib.hid hb1
      clear c1 t1 d2 t2 hp hb1 R
      go_wp2_with (refine wpList_load_mid rfl 45 _ rfl g6 0 rfl CX _ R6 Try.underlying45 rfl hci ?_)
      clear R6
      refine (HB1.out).mono ?_
      rintro e w3 ⟨rfl, o3, s3⟩
      have HO := Lib.hid o3; have HK := Lib.hid s3
      clear o3 s3 HB1
      generalize wrPut b x = P at *
      obtain ⟨er, b2⟩ := P
      simp only at HO
      by_cases h0 : er = 0
      · subst h0
        have HX : Hid (RES = wrAll wrPut (ll.drop (j + 1)) b2) := Lib.hid (by rw [HST.out, if_pos rfl])
        have i1 := I1.out
        go_wp2
        exact ⟨⟨j + 1, b2, by omega, by first | rfl | trivial, HO, HK, HX⟩, by simp [intOf]; omega⟩
      · have HX : Hid (RES = (er, b2)) := Lib.hid (by rw [HST.out, if_neg h0])
        have q5 : (er != 0) = true := by simpa using h0
        clear h0
        go_wp2
        go_ret
        rw [HX.out]
        exact ⟨rfl, HO.out, HK.out⟩
    · obtain rfl : j = n := by omega
      have q1 : ¬ ((j : Int) < j) := by omega
      have HX : Hid (RES = (0, b)) := Lib.hid (by rw [HX.out, List.drop_of_length_le (by rw [HLL.out]; have := HN.out; simp; omega), wrAll])
      go_wp2
      go_ret
      rw [HX.out]
      exact ⟨rfl, HO.out, HK.out⟩

set_option maxHeartbeats 4000000 in
theorem eachE_any (w0 w : World) (g K : Nat) (bs : List UInt8) (v : Value) (l : List Ent) (hv : EntsAt w0 v l) (h : OwnK 87 w0 w g bs K) (hK : WrCell w K g) (hn : l.length ≤ 8796093022208) :
    Calls Try.prog 63 #[v, .func (.func 40) #[] #[.pointer (some ⟨K, 0, none⟩)]] w fun e w' => e = .returned (.int .i64 (wrAll wrEnt (l.map (·.p)) bs).1) ∧ OwnK 87 w0 w' g (wrAll wrEnt (l.map (·.p)) bs).2 K ∧ WrCell w' K g := by
  obtain ⟨ao, cap, rfl, hcap, hel, hsz⟩ := hv.row
  have HEA := Lib.hid hv.each
  obtain ⟨X, hX⟩ : ∃ X, X = entC Ent0 := ⟨_, rfl⟩
  have hXl : X.length = 37 := by rw [hX]; rfl
  have hZZ := zeroE
  rw [← hX] at hZZ
  have HZ := Lib.hid hZZ
  clear hX hZZ hv
  have HEL := Lib.hid hel; have HSZ := Lib.hid hsz; have HK := Lib.hid hK; have HO := Lib.hid h
  obtain ⟨n, hnn⟩ : ∃ n, n = l.length := ⟨_, rfl⟩
  have HN := Lib.hid hnn
  rw [← hnn] at hn hcap ⊢
  obtain ⟨ll, hll⟩ : ∃ ll, ll = l.map (·.p) := ⟨_, rfl⟩
  rw [← hll]
  have HLL := Lib.hid hll
  obtain ⟨RES, hRES⟩ : ∃ r, r = wrAll wrEnt ll bs := ⟨_, rfl⟩
  rw [← hRES]
  have HRES := Lib.hid hRES
  clear hel hsz hK h hnn hll hRES
  go_enter Try.func63, Try.ntmps63
  go_wp2
  go_loopw [10] (fun i wr => ∃ (j : Nat) (b : List UInt8), j ≤ n ∧ i = .int .i64 (j : Int) ∧ Hid (OwnK 87 w0 wr g b K) ∧ Hid (WrCell wr K g) ∧ Hid (RES = wrAll wrEnt (ll.drop j) b)) (fun i _ => n - (intOf i).toNat)
  case atStart => exact ⟨0, bs, Nat.zero_le _, rfl, HO, HK, Lib.hid (by rw [HRES.out, List.drop_zero])⟩
  case round =>
    obtain ⟨j, b, hj, rfl, HO, HK, HX⟩ := hrel
    by_cases hlt : j < n
    · have hjl : j < l.length := by have := HN.out; omega
      have q1 : (j : Int) < n := by omega
      have q0 : (0 : Int) ≤ j := by omega
      obtain ⟨x, hx⟩ : ∃ x, l[j]? = some x := ⟨l[j], List.getElem?_eq_getElem hjl⟩
      have hxm := List.mem_of_getElem? hx
      obtain ⟨bb, o, hao, hr⟩ := HEL.out (fun e => by rw [e] at hjl; simp at hjl)
      have R := Lib.hid (HO.out.own.pure.range (rowOf_at l o j x hx hr HSZ.out) (fun e => e))
      subst hao
      have hst : RES = if (wrEnt b x.p).1 = 0 then wrAll wrEnt (ll.drop (j + 1)) (wrEnt b x.p).2 else wrEnt b x.p := by
        rw [HX.out]
        exact wrAll_at _ _ _ _ _ (by rw [HLL.out]; rw [List.getElem?_map, hx]; rfl)
      have HST := Lib.hid hst
      have i1 : IntKind.i64.wrap ((j : Int) + 1) = ((j + 1 : Nat) : Int) := by rw [IntWalk.i64_in _ (by omega)]; omega
      have I1 := Lib.hid i1
      obtain ⟨hea, hes⟩ := HEA.out x hxm
      have hco := entC_one hea
      have hcl := entC_length hea.root
      have HCALL := Lib.hid (fun W (O : OwnK 87 w0 W g b K) C => put1_any w0 W g K b x O C (hea.pure O.own.pure) hes)
      obtain ⟨CX, hCX⟩ : ∃ c, c = entC x := ⟨_, rfl⟩
      rw [← hCX] at HCALL R hco hcl
      have hci : (Try.prog.info? 47).map (·.size) = some CX.length := by rw [infoE, hcl]
      clear hxm hCX hea hes
      clear hst i1 hjl hx hr
      go_wp2_with (first | (refine wpList_load_mid rfl 47 _ rfl bb (o + j * 37) rfl CX _ R.out Try.underlying47 rfl hci ?_) | (refine wpList_allocZ rfl 47 rfl X HZ.out ?_))
      intro g6 w1 e1 c1 t1 s1
      have l6 : wr.heap.size ≤ g6 := by omega
      clear e1 s1
      go_wp2_with (refine wpList_store_blk rfl 47 _ _ rfl g6 _ CX _ rfl rfl c1 (by rw [List.size_toArray, hXl, hcl]) hci hco ?_)
      intro w2 d2 t2 _
      have hp : Pure wr w2 := t1.trans t2 fun q hq e => by omega
      have HO := Lib.hid (HO.out.next hp); have HK : Hid (WrCell w2 K g) := Lib.hid (hp.obj HK.out (fun e => e))
      have R6 := range_of_row d2
      have hb1 := HCALL.out w2 HO.out HK.out
      have HB1 := Lib.hid hb1
      clear c1 t1 d2 t2 hp hb1 R
      go_wp2_with (refine wpList_load_mid rfl 47 _ rfl g6 0 rfl CX _ R6 Try.underlying47 rfl hci ?_)
      clear R6
      refine (HB1.out).mono ?_
      rintro e w3 ⟨rfl, o3, s3⟩
      have HO := Lib.hid o3; have HK := Lib.hid s3
      clear o3 s3 HB1
      generalize wrEnt b x.p = P at *
      obtain ⟨er, b2⟩ := P
      simp only at HO
      by_cases h0 : er = 0
      · subst h0
        have HX : Hid (RES = wrAll wrEnt (ll.drop (j + 1)) b2) := Lib.hid (by rw [HST.out, if_pos rfl])
        have i1 := I1.out
        go_wp2
        exact ⟨⟨j + 1, b2, by omega, by first | rfl | trivial, HO, HK, HX⟩, by simp [intOf]; omega⟩
      · have HX : Hid (RES = (er, b2)) := Lib.hid (by rw [HST.out, if_neg h0])
        have q5 : (er != 0) = true := by simpa using h0
        clear h0
        go_wp2
        go_ret
        rw [HX.out]
        exact ⟨rfl, HO.out, HK.out⟩
    · obtain rfl : j = n := by omega
      have q1 : ¬ ((j : Int) < j) := by omega
      have HX : Hid (RES = (0, b)) := Lib.hid (by rw [HX.out, List.drop_of_length_le (by rw [HLL.out]; have := HN.out; simp; omega), wrAll])
      go_wp2
      go_ret
      rw [HX.out]
      exact ⟨rfl, HO.out, HK.out⟩
end Go.Proofs.Ytigkmdjdnkbdkaa
