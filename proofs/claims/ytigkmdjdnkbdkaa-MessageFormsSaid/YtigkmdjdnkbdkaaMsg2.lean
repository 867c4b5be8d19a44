/- Chapter 22: a message is written. -/
import Derived.Test.YtigkmdjdnkbdkaaMsg1
import Derived.Test.YtigkmdjdnkbdkaaGrow
namespace Go.Proofs.Ytigkmdjdnkbdkaa
open Go.RowKit
set_option maxRecDepth 100000

theorem step_n {w0 w : World} {g K : Nat} {bs : List UInt8} (x n : Int) (HO : OwnK 87 w0 w g bs K) (HK : WrCell w K g) :
    Calls Try.prog 39 #[.pointer (some ⟨g, 0, none⟩), .int .i64 x, .int .i64 n] w fun e w' =>
      e = .returned (.int .i64 (wrNum bs x n).1) ∧ OwnK 87 w0 w' g (wrNum bs x n).2 K ∧ WrCell w' K g :=
  (WNum_k x n HO HK.lt).mono fun _ _ h => ⟨h.1, h.2.1, h.2.2 _ HK⟩

set_option maxHeartbeats 2000000 in
theorem listE_any (w0 w : World) (g K : Nat) (bs : List UInt8) (v : Value) (l : List Ent) (hv : EntsAt w0 v l) (h : OwnK 87 w0 w g bs K) (hK : WrCell w K g) (hn : l.length ≤ 8796093022208) :
    Calls Try.prog 43 #[.pointer (some ⟨g, 0, none⟩), v, .func (.func 40) #[] #[.pointer (some ⟨K, 0, none⟩)]] w fun e w' => e = .returned (.int .i64 (wrList wrEnt (l.map (·.p)) bs).1) ∧ OwnK 87 w0 w' g (wrList wrEnt (l.map (·.p)) bs).2 K ∧ WrCell w' K g := by
  have hE := fun W b (O : OwnK 87 w0 W g b K) C => eachE_any w0 W g K b v l hv O C hn
  have hll : ((l.map (·.p))).length = l.length := by simp
  have hL : wrList wrEnt (l.map (·.p)) bs = if (wrNum bs l.length 1).1 = 0 then wrAll wrEnt (l.map (·.p)) (wrNum bs l.length 1).2 else wrNum bs l.length 1 := by rw [wrList, hll]
  obtain ⟨ao, cp, rfl⟩ : ∃ ao cp, v = .slice ao l.length cp := hv.row.at
  have HE := Lib.hid hE; have HL := Lib.hid hL
  generalize wrList wrEnt (l.map (·.p)) bs = RES at *
  have HN1 := Lib.hid (step_n (l.length : Int) 1 h hK)
  obtain ⟨n, hnn⟩ : ∃ n, n = l.length := ⟨_, rfl⟩
  rw [← hnn] at HE HL HN1 ⊢
  clear hE hL h hK hll hv hnn hn
  generalize wrNum bs (n : Int) 1 = P at *
  obtain ⟨er, b1⟩ := P
  simp only at HN1 HL
  go_enter Try.func43, Try.ntmps43
  go_wp2_with fail
  refine HN1.out.mono ?_
  rintro e w1 ⟨rfl, o1, s1⟩
  have HO := Lib.hid o1; have HK := Lib.hid s1
  clear o1 s1 HN1
  by_cases h0 : er = 0
  · subst h0
    have HL : Hid (RES = wrAll wrEnt (l.map (·.p)) b1) := Lib.hid (by rw [HL.out, if_pos rfl])
    go_wp2_with fail
    refine (HE.out _ _ HO.out HK.out).mono ?_
    rintro e w2 ⟨rfl, o2, s2⟩
    have HO := Lib.hid o2; have HK := Lib.hid s2
    clear o2 s2 HE
    generalize wrAll wrEnt (l.map (·.p)) b1 = P2 at *
    go_wp2
    go_ret
    rw [HL.out]
    exact ⟨rfl, HO.out, HK.out⟩
  · have HL : Hid (RES = (er, b1)) := Lib.hid (by rw [HL.out, if_neg h0])
    have q5 : (er != 0) = true := by simpa using h0
    clear h0
    go_wp2
    go_ret
    rw [HL.out]
    exact ⟨rfl, HO.out, HK.out⟩

set_option maxHeartbeats 2000000 in
theorem listH_any (w0 w : World) (g K : Nat) (bs : List UInt8) (v : Value) (l : List (List UInt8)) (hv : Rows u8s 32 w0 v l) (h : OwnK 87 w0 w g bs K) (hK : WrCell w K g) (hn : l.length ≤ 8796093022208) :
    Calls Try.prog 44 #[.pointer (some ⟨g, 0, none⟩), v, .func (.func 45) #[.pointer (some ⟨g, 0, none⟩)] #[]] w fun e w' => e = .returned (.int .i64 (wrList wrPut l bs).1) ∧ OwnK 87 w0 w' g (wrList wrPut l bs).2 K ∧ WrCell w' K g := by
  have hE := fun W b (O : OwnK 87 w0 W g b K) C => eachH_any w0 W g K b v l hv O C hn
  have hll : (l).length = l.length := by simp
  have hL : wrList wrPut l bs = if (wrNum bs l.length 1).1 = 0 then wrAll wrPut l (wrNum bs l.length 1).2 else wrNum bs l.length 1 := by rw [wrList, hll]
  obtain ⟨ao, cp, rfl⟩ : ∃ ao cp, v = .slice ao l.length cp := hv.at
  have HE := Lib.hid hE; have HL := Lib.hid hL
  generalize wrList wrPut l bs = RES at *
  have HN1 := Lib.hid (step_n (l.length : Int) 1 h hK)
  obtain ⟨n, hnn⟩ : ∃ n, n = l.length := ⟨_, rfl⟩
  rw [← hnn] at HE HL HN1 ⊢
  clear hE hL h hK hll hv hnn hn
  generalize wrNum bs (n : Int) 1 = P at *
  obtain ⟨er, b1⟩ := P
  simp only at HN1 HL
  go_enter Try.func44, Try.ntmps44
  go_wp2_with fail
  refine HN1.out.mono ?_
  rintro e w1 ⟨rfl, o1, s1⟩
  have HO := Lib.hid o1; have HK := Lib.hid s1
  clear o1 s1 HN1
  by_cases h0 : er = 0
  · subst h0
    have HL : Hid (RES = wrAll wrPut l b1) := Lib.hid (by rw [HL.out, if_pos rfl])
    go_wp2_with fail
    refine (HE.out _ _ HO.out HK.out).mono ?_
    rintro e w2 ⟨rfl, o2, s2⟩
    have HO := Lib.hid o2; have HK := Lib.hid s2
    clear o2 s2 HE
    generalize wrAll wrPut l b1 = P2 at *
    go_wp2
    go_ret
    rw [HL.out]
    exact ⟨rfl, HO.out, HK.out⟩
  · have HL : Hid (RES = (er, b1)) := Lib.hid (by rw [HL.out, if_neg h0])
    have q5 : (er != 0) = true := by simpa using h0
    clear h0
    go_wp2
    go_ret
    rw [HL.out]
    exact ⟨rfl, HO.out, HK.out⟩

set_option maxHeartbeats 2000000 in
theorem listT_any (w0 w : World) (g K : Nat) (bs : List UInt8) (v : Value) (l : List (List UInt8)) (hv : Rows txtC 1 w0 v l) (h : OwnK 87 w0 w g bs K) (hK : WrCell w K g) (hb : ∀ t ∈ l, t.length ≤ 140737488351232) (hn : l.length ≤ 8796093022208) :
    Calls Try.prog 46 #[.pointer (some ⟨g, 0, none⟩), v, .func (.func 47) #[] #[.pointer (some ⟨K, 0, none⟩)]] w fun e w' => e = .returned (.int .i64 (wrList wrT2 l bs).1) ∧ OwnK 87 w0 w' g (wrList wrT2 l bs).2 K ∧ WrCell w' K g := by
  have hE := fun W b (O : OwnK 87 w0 W g b K) C => eachT_any w0 W g K b v l hv O C hb hn
  have hll : (l).length = l.length := by simp
  have hL : wrList wrT2 l bs = if (wrNum bs l.length 1).1 = 0 then wrAll wrT2 l (wrNum bs l.length 1).2 else wrNum bs l.length 1 := by rw [wrList, hll]
  obtain ⟨ao, cp, rfl⟩ : ∃ ao cp, v = .slice ao l.length cp := hv.at
  have HE := Lib.hid hE; have HL := Lib.hid hL
  generalize wrList wrT2 l bs = RES at *
  have HN1 := Lib.hid (step_n (l.length : Int) 1 h hK)
  obtain ⟨n, hnn⟩ : ∃ n, n = l.length := ⟨_, rfl⟩
  rw [← hnn] at HE HL HN1 ⊢
  clear hE hL h hK hll hv hnn hn
  generalize wrNum bs (n : Int) 1 = P at *
  obtain ⟨er, b1⟩ := P
  simp only at HN1 HL
  go_enter Try.func46, Try.ntmps46
  go_wp2_with fail
  refine HN1.out.mono ?_
  rintro e w1 ⟨rfl, o1, s1⟩
  have HO := Lib.hid o1; have HK := Lib.hid s1
  clear o1 s1 HN1
  by_cases h0 : er = 0
  · subst h0
    have HL : Hid (RES = wrAll wrT2 l b1) := Lib.hid (by rw [HL.out, if_pos rfl])
    go_wp2_with fail
    refine (HE.out _ _ HO.out HK.out).mono ?_
    rintro e w2 ⟨rfl, o2, s2⟩
    have HO := Lib.hid o2; have HK := Lib.hid s2
    clear o2 s2 HE
    generalize wrAll wrT2 l b1 = P2 at *
    go_wp2
    go_ret
    rw [HL.out]
    exact ⟨rfl, HO.out, HK.out⟩
  · have HL : Hid (RES = (er, b1)) := Lib.hid (by rw [HL.out, if_neg h0])
    have q5 : (er != 0) = true := by simpa using h0
    clear h0
    go_wp2
    go_ret
    rw [HL.out]
    exact ⟨rfl, HO.out, HK.out⟩

theorem wrThen_assoc (p : Int × List UInt8) (f g : List UInt8 → Int × List UInt8) : wrThen (wrThen p f) g = wrThen p fun b => wrThen (f b) g := by
  unfold wrThen
  by_cases h : p.1 = 0
  · simp only [if_pos h]
  · simp only [if_neg h]
theorem wrThen_id (p : Int × List UInt8) : wrThen p (fun b => (0, b)) = p := by
  unfold wrThen
  by_cases h : p.1 = 0
  · rw [if_pos h, ← h]
  · rw [if_neg h]
def wrP (b : List UInt8) (p : Int × Int) : Int × List UInt8 := wrNum b p.1 p.2
def headL (m : MsgP) : List (Int × Int) := [(77, 1), (71, 1), (m.kind, 1), (m.user, 1), (m.src, 2)]
theorem wrHead_all (m : MsgP) : wrHead m = wrAll wrP (headL m) [] := by
  have e : ∀ (x : Int × Int) t b, wrAll wrP (x :: t) b = wrThen (wrP b x) (fun b => wrAll wrP t b) := fun _ _ _ => rfl
  have e0 : ∀ b, wrAll wrP [] b = (0, b) := fun _ => rfl
  rw [headL, wrHead]
  simp only [e, e0, wrThen_id, wrThen_assoc]
  rfl
/-- One of five pairs. -/
theorem ix5 (w : World) (vs : List Int) (k : Nat) (hl : vs.length = 10) (hk : k < 5) : (Instr.index 89 (.agg (vs.map (Value.int .i64)).toArray) (.int .i64 (k : Int))).run Try.prog w = .ok (.agg #[.int .i64 (vs.getD (2 * k) 0), .int .i64 (vs.getD (2 * k + 1) 0)]) w := by
  obtain ⟨a, b, c, d, e, f, g, h, i, j, rfl⟩ : ∃ a b c d e f g h i j, vs = [a, b, c, d, e, f, g, h, i, j] := by
    match vs, hl with
    | [a, b, c, d, e, f, g, h, i, j], _ => exact ⟨a, b, c, d, e, f, g, h, i, j, rfl⟩
  rcases (by omega : k = 0 ∨ k = 1 ∨ k = 2 ∨ k = 3 ∨ k = 4) with rfl | rfl | rfl | rfl | rfl <;>
    simp [Instr.index, run_underlying Try.underlying89, asIntOf, part, isAgg, run_underlying Try.underlying88]
theorem zero22 : (Try.prog.info? 88).bind (·.zero) = some (.agg ([.int .i64 0, .int .i64 0] : List Value).toArray) := by kernel_rfl
theorem info22 : (Try.prog.info? 88).map (·.size) = some 2 := by kernel_rfl

set_option maxHeartbeats 8000000 in
theorem mput_any (w0 w : World) (gm g : Nat) (m : Msg) (hg : w0.heap[gm]? = some (Obj.cells (msgC m).toArray 26 (0, 0))) (hm : MsgAt w0 m) (O : OwnW 87 w0 w g []) :
    Calls Try.prog 16 #[.pointer (some ⟨g, 0, none⟩), .pointer (some ⟨gm, 0, none⟩)] w fun e w' => e = .returned (.int .i64 (wrMsg m.p).1) ∧ OwnW 87 w0 w' g (wrMsg m.p).2 := by
  have HE0 := Lib.hid hg; have HA := Lib.hid hm
  have hgw := O.pure.obj hg (fun e => e)
  obtain ⟨K, hK⟩ : ∃ K, K = w.heap.size := ⟨_, rfl⟩
  have hp : Pure w (w.alloc (.cells #[.pointer (some ⟨g, 0, none⟩)] 51)) := (Turn.refl (fun _ => False) w).alloc _
  have HO := Lib.hid (O.keep hp (K := K) (by omega))
  have HKc := heap_alloc_new w (.cells #[.pointer (some ⟨g, 0, none⟩)] 51)
  have HE : Hid ((w.alloc (.cells #[.pointer (some ⟨g, 0, none⟩)] 51)).heap[gm]? = some (Obj.cells (msgC m).toArray 26 (0, 0))) := Lib.hid (hp.obj hgw (fun e => e))
  rw [← hK] at HKc
  have HK := Lib.hid HKc
  clear hp O hm hg hgw HKc
  go_enter Try.func16, Try.ntmps16
  go_wp2_with fail
  rw [← hK]
  generalize w.alloc (.cells #[.pointer (some ⟨g, 0, none⟩)] 51) = w1 at *
  clear hK
  have HK : Hid (WrCell w1 K g) := Lib.hid HK.out
  refine wp_region_G (S := fun w' => Pure w1 w' ∧ Held [(K, Obj.cells #[.pointer (some ⟨g, 0, none⟩)] 51 (0, 0)), (gm, Obj.cells (msgC m).toArray 26 (0, 0))] w') (T := fun _ _ _ => True) (by kernel_rfl) ⟨(Turn.refl _ _).drew, held_cons (show w1.drew.heap[_]? = _ from HK.out) (held_cons (show w1.drew.heap[_]? = _ from HE.out) (held_nil _))⟩ trivial ?_
  have HG := Grow.held w1 [(K, Obj.cells #[.pointer (some ⟨g, 0, none⟩)] 51 (0, 0)), (gm, Obj.cells (msgC m).toArray 26 (0, 0))]
  refine atN 0 ?_
  iterate 1
    refine anyG_y HG (v := ?_) rfl (by kernel_rfl) (fun _ _ _ h => h) (fun _ _ _ => Iff.rfl) (Or.inl ⟨by rfl, fun w hSw => ?_⟩) ?_
    rotate_left
    · skip
      have kc := WrCell.at (show WrCell w K g from hSw.2.head)
      obtain ⟨c0, c1, c2, c3, c4, c5⟩ := msg_at (show w.heap[gm]? = _ from hSw.2.tail.head)
      first | (go_simp; done) | (go_simp; with_reducible rfl)
    simp only [Nat.reduceAdd, AP]
  refine anyG_y HG (v := .int .i64 77) rfl (by kernel_rfl) (fun _ _ _ h => h) (fun _ _ _ => Iff.rfl) (Or.inl ⟨by rfl, fun w hSw => ?_⟩) ?_
  · go_simp; rfl
  simp only [Nat.reduceAdd, AP]
  iterate 2
    refine anyG_y HG (v := ?_) rfl (by kernel_rfl) (fun _ _ _ h => h) (fun _ _ _ => Iff.rfl) (Or.inl ⟨by rfl, fun w hSw => ?_⟩) ?_
    rotate_left
    · skip
      have kc := WrCell.at (show WrCell w K g from hSw.2.head)
      obtain ⟨c0, c1, c2, c3, c4, c5⟩ := msg_at (show w.heap[gm]? = _ from hSw.2.tail.head)
      first | (go_simp; done) | (go_simp; with_reducible rfl)
    simp only [Nat.reduceAdd, AP]
  refine anyG_y HG (v := .int .i64 71) rfl (by kernel_rfl) (fun _ _ _ h => h) (fun _ _ _ => Iff.rfl) (Or.inl ⟨by rfl, fun w hSw => ?_⟩) ?_
  · go_simp; rfl
  simp only [Nat.reduceAdd, AP]
  iterate 18
    refine anyG_y HG (v := ?_) rfl (by kernel_rfl) (fun _ _ _ h => h) (fun _ _ _ => Iff.rfl) (Or.inl ⟨by rfl, fun w hSw => ?_⟩) ?_
    rotate_left
    · skip
      have kc := WrCell.at (show WrCell w K g from hSw.2.head)
      obtain ⟨c0, c1, c2, c3, c4, c5⟩ := msg_at (show w.heap[gm]? = _ from hSw.2.tail.head)
      first | (go_simp; done) | (go_simp; with_reducible rfl)
    simp only [Nat.reduceAdd, AP]
  refine anyG_done (by kernel_rfl) (fun w2 hS _ => ?_) _
  obtain ⟨hpS, hS⟩ := hS
  clear HG
  have HO := Lib.hid (HO.out.next hpS); have HK : Hid (WrCell w2 K g) := Lib.hid hS.head; have HE := Lib.hid hS.tail.head
  clear hS hpS
  go_wp2
  go_loopw [33] (fun i wr => ∃ (j : Nat) (b : List UInt8), j ≤ 5 ∧ i = .int .i64 (j : Int) ∧ Hid (OwnK 87 w0 wr g b K) ∧ Hid (WrCell wr K g) ∧ Hid (wrHead m.p = wrAll wrP ((headL m.p).drop j) b)) (fun i _ => 5 - (intOf i).toNat)
  case atStart => exact ⟨0, [], by omega, by first | rfl | trivial, HO, HK, Lib.hid (wrHead_all m.p)⟩
  case round =>
    obtain ⟨j, b, hj, rfl, HO, HK, HX⟩ := hrel
    rcases (by omega : j = 0 ∨ j = 1 ∨ j = 2 ∨ j = 3 ∨ j = 4 ∨ j = 5) with rfl | rfl | rfl | rfl | rfl | rfl
    · have hix : ∀ W : World, (Instr.index 89 (.agg #[.int .i64 77, .int .i64 1, .int .i64 71, .int .i64 1, .int .i64 m.p.kind, .int .i64 1, .int .i64 m.p.user, .int .i64 1, .int .i64 m.p.src, .int .i64 2]) (.int .i64 0)).run Try.prog W = .ok (.agg #[.int .i64 77, .int .i64 1]) W := fun W => ix5 W [77, 1, 71, 1, m.p.kind, 1, m.p.user, 1, m.p.src, 2] 0 rfl (by decide)
      have hst := wrAll_at wrP (headL m.p) b 0 ((77 : Int), (1 : Int)) rfl
      rw [← HX.out] at hst
      have HST : Hid (wrHead m.p = if (wrNum b (77 : Int) 1).1 = 0 then wrAll wrP ((headL m.p).drop 1) (wrNum b (77 : Int) 1).2 else wrNum b (77 : Int) 1) := Lib.hid hst
      clear hst HX
      go_wp2_with (refine wpList_allocZ rfl 88 rfl _ zero22 ?_)
      intro g6 w3 e3 c3 t3 s3
      have l6 : wr.heap.size ≤ g6 := by omega
      clear e3 s3
      go_wp2_with (refine wpList_store_blk rfl 88 _ _ rfl g6 _ [.int .i64 (77 : Int), .int .i64 1] _ rfl rfl c3 rfl info22 (by intro v hv; simp at hv; rcases hv with rfl | rfl <;> rfl) ?_)
      intro w4 d4 t4 _
      have hp : Pure wr w4 := t3.trans t4 fun q hq e => by omega
      have HO := Lib.hid (HO.out.next hp); have HK : Hid (WrCell w4 K g) := Lib.hid (hp.obj HK.out (fun e => e))
      have kc := HK.out.at
      have k0 : w4.cell? ⟨g6, 0, none⟩ = some (.int .i64 (77 : Int)) := by rw [cell_of_row w4 g6 0 _ _ _ d4]; rfl
      have k1 : w4.cell? ⟨g6, 1, none⟩ = some (.int .i64 1) := by rw [cell_of_row w4 g6 1 _ _ _ d4]; rfl
      clear c3 t3 d4 t4 hp hix
      go_wp2_with fail
      refine (step_n (77 : Int) 1 HO.out HK.out).mono ?_
      rintro e w5 ⟨rfl, o5, s5⟩
      have HO := Lib.hid o5; have HK := Lib.hid s5
      clear o5 s5 kc k0 k1
      generalize wrNum b (77 : Int) 1 = P at *
      obtain ⟨er, b2⟩ := P
      simp only at HO
      by_cases h0 : er = 0
      · subst h0
        have HX : Hid (wrHead m.p = wrAll wrP ((headL m.p).drop 1) b2) := Lib.hid (by rw [HST.out, if_pos rfl])
        go_wp2
        exact ⟨⟨1, b2, by omega, by first | rfl | trivial | go_num, HO, HK, HX⟩, by simp [intOf]⟩
      · have HX : Hid (wrHead m.p = (er, b2)) := Lib.hid (by rw [HST.out, if_neg h0])
        have q5 : (er != 0) = true := by simpa using h0
        have hW : wrMsg m.p = (er, b2) := by rw [wrMsg, HX.out]; simp only [wrThen, if_neg h0]
        have HW := Lib.hid hW
        clear h0 hW
        go_wp2
        go_ret
        rw [HW.out]
        exact ⟨rfl, HO.out.own⟩
    · have hix : ∀ W : World, (Instr.index 89 (.agg #[.int .i64 77, .int .i64 1, .int .i64 71, .int .i64 1, .int .i64 m.p.kind, .int .i64 1, .int .i64 m.p.user, .int .i64 1, .int .i64 m.p.src, .int .i64 2]) (.int .i64 1)).run Try.prog W = .ok (.agg #[.int .i64 71, .int .i64 1]) W := fun W => ix5 W [77, 1, 71, 1, m.p.kind, 1, m.p.user, 1, m.p.src, 2] 1 rfl (by decide)
      have hst := wrAll_at wrP (headL m.p) b 1 ((71 : Int), (1 : Int)) rfl
      rw [← HX.out] at hst
      have HST : Hid (wrHead m.p = if (wrNum b (71 : Int) 1).1 = 0 then wrAll wrP ((headL m.p).drop 2) (wrNum b (71 : Int) 1).2 else wrNum b (71 : Int) 1) := Lib.hid hst
      clear hst HX
      go_wp2_with (refine wpList_allocZ rfl 88 rfl _ zero22 ?_)
      intro g6 w3 e3 c3 t3 s3
      have l6 : wr.heap.size ≤ g6 := by omega
      clear e3 s3
      go_wp2_with (refine wpList_store_blk rfl 88 _ _ rfl g6 _ [.int .i64 (71 : Int), .int .i64 1] _ rfl rfl c3 rfl info22 (by intro v hv; simp at hv; rcases hv with rfl | rfl <;> rfl) ?_)
      intro w4 d4 t4 _
      have hp : Pure wr w4 := t3.trans t4 fun q hq e => by omega
      have HO := Lib.hid (HO.out.next hp); have HK : Hid (WrCell w4 K g) := Lib.hid (hp.obj HK.out (fun e => e))
      have kc := HK.out.at
      have k0 : w4.cell? ⟨g6, 0, none⟩ = some (.int .i64 (71 : Int)) := by rw [cell_of_row w4 g6 0 _ _ _ d4]; rfl
      have k1 : w4.cell? ⟨g6, 1, none⟩ = some (.int .i64 1) := by rw [cell_of_row w4 g6 1 _ _ _ d4]; rfl
      clear c3 t3 d4 t4 hp hix
      go_wp2_with fail
      refine (step_n (71 : Int) 1 HO.out HK.out).mono ?_
      rintro e w5 ⟨rfl, o5, s5⟩
      have HO := Lib.hid o5; have HK := Lib.hid s5
      clear o5 s5 kc k0 k1
      generalize wrNum b (71 : Int) 1 = P at *
      obtain ⟨er, b2⟩ := P
      simp only at HO
      by_cases h0 : er = 0
      · subst h0
        have HX : Hid (wrHead m.p = wrAll wrP ((headL m.p).drop 2) b2) := Lib.hid (by rw [HST.out, if_pos rfl])
        go_wp2
        exact ⟨⟨2, b2, by omega, by first | rfl | trivial | go_num, HO, HK, HX⟩, by simp [intOf]⟩
      · have HX : Hid (wrHead m.p = (er, b2)) := Lib.hid (by rw [HST.out, if_neg h0])
        have q5 : (er != 0) = true := by simpa using h0
        have hW : wrMsg m.p = (er, b2) := by rw [wrMsg, HX.out]; simp only [wrThen, if_neg h0]
        have HW := Lib.hid hW
        clear h0 hW
        go_wp2
        go_ret
        rw [HW.out]
        exact ⟨rfl, HO.out.own⟩
    · have hix : ∀ W : World, (Instr.index 89 (.agg #[.int .i64 77, .int .i64 1, .int .i64 71, .int .i64 1, .int .i64 m.p.kind, .int .i64 1, .int .i64 m.p.user, .int .i64 1, .int .i64 m.p.src, .int .i64 2]) (.int .i64 2)).run Try.prog W = .ok (.agg #[.int .i64 m.p.kind, .int .i64 1]) W := fun W => ix5 W [77, 1, 71, 1, m.p.kind, 1, m.p.user, 1, m.p.src, 2] 2 rfl (by decide)
      have hst := wrAll_at wrP (headL m.p) b 2 ((m.p.kind : Int), (1 : Int)) rfl
      rw [← HX.out] at hst
      have HST : Hid (wrHead m.p = if (wrNum b (m.p.kind : Int) 1).1 = 0 then wrAll wrP ((headL m.p).drop 3) (wrNum b (m.p.kind : Int) 1).2 else wrNum b (m.p.kind : Int) 1) := Lib.hid hst
      clear hst HX
      go_wp2_with (refine wpList_allocZ rfl 88 rfl _ zero22 ?_)
      intro g6 w3 e3 c3 t3 s3
      have l6 : wr.heap.size ≤ g6 := by omega
      clear e3 s3
      go_wp2_with (refine wpList_store_blk rfl 88 _ _ rfl g6 _ [.int .i64 (m.p.kind : Int), .int .i64 1] _ rfl rfl c3 rfl info22 (by intro v hv; simp at hv; rcases hv with rfl | rfl <;> rfl) ?_)
      intro w4 d4 t4 _
      have hp : Pure wr w4 := t3.trans t4 fun q hq e => by omega
      have HO := Lib.hid (HO.out.next hp); have HK : Hid (WrCell w4 K g) := Lib.hid (hp.obj HK.out (fun e => e))
      have kc := HK.out.at
      have k0 : w4.cell? ⟨g6, 0, none⟩ = some (.int .i64 (m.p.kind : Int)) := by rw [cell_of_row w4 g6 0 _ _ _ d4]; rfl
      have k1 : w4.cell? ⟨g6, 1, none⟩ = some (.int .i64 1) := by rw [cell_of_row w4 g6 1 _ _ _ d4]; rfl
      clear c3 t3 d4 t4 hp hix
      go_wp2_with fail
      refine (step_n (m.p.kind : Int) 1 HO.out HK.out).mono ?_
      rintro e w5 ⟨rfl, o5, s5⟩
      have HO := Lib.hid o5; have HK := Lib.hid s5
      clear o5 s5 kc k0 k1
      generalize wrNum b (m.p.kind : Int) 1 = P at *
      obtain ⟨er, b2⟩ := P
      simp only at HO
      by_cases h0 : er = 0
      · subst h0
        have HX : Hid (wrHead m.p = wrAll wrP ((headL m.p).drop 3) b2) := Lib.hid (by rw [HST.out, if_pos rfl])
        go_wp2
        exact ⟨⟨3, b2, by omega, by first | rfl | trivial | go_num, HO, HK, HX⟩, by simp [intOf]⟩
      · have HX : Hid (wrHead m.p = (er, b2)) := Lib.hid (by rw [HST.out, if_neg h0])
        have q5 : (er != 0) = true := by simpa using h0
        have hW : wrMsg m.p = (er, b2) := by rw [wrMsg, HX.out]; simp only [wrThen, if_neg h0]
        have HW := Lib.hid hW
        clear h0 hW
        go_wp2
        go_ret
        rw [HW.out]
        exact ⟨rfl, HO.out.own⟩
    · have hix : ∀ W : World, (Instr.index 89 (.agg #[.int .i64 77, .int .i64 1, .int .i64 71, .int .i64 1, .int .i64 m.p.kind, .int .i64 1, .int .i64 m.p.user, .int .i64 1, .int .i64 m.p.src, .int .i64 2]) (.int .i64 3)).run Try.prog W = .ok (.agg #[.int .i64 m.p.user, .int .i64 1]) W := fun W => ix5 W [77, 1, 71, 1, m.p.kind, 1, m.p.user, 1, m.p.src, 2] 3 rfl (by decide)
      have hst := wrAll_at wrP (headL m.p) b 3 ((m.p.user : Int), (1 : Int)) rfl
      rw [← HX.out] at hst
      have HST : Hid (wrHead m.p = if (wrNum b (m.p.user : Int) 1).1 = 0 then wrAll wrP ((headL m.p).drop 4) (wrNum b (m.p.user : Int) 1).2 else wrNum b (m.p.user : Int) 1) := Lib.hid hst
      clear hst HX
      go_wp2_with (refine wpList_allocZ rfl 88 rfl _ zero22 ?_)
      intro g6 w3 e3 c3 t3 s3
      have l6 : wr.heap.size ≤ g6 := by omega
      clear e3 s3
      go_wp2_with (refine wpList_store_blk rfl 88 _ _ rfl g6 _ [.int .i64 (m.p.user : Int), .int .i64 1] _ rfl rfl c3 rfl info22 (by intro v hv; simp at hv; rcases hv with rfl | rfl <;> rfl) ?_)
      intro w4 d4 t4 _
      have hp : Pure wr w4 := t3.trans t4 fun q hq e => by omega
      have HO := Lib.hid (HO.out.next hp); have HK : Hid (WrCell w4 K g) := Lib.hid (hp.obj HK.out (fun e => e))
      have kc := HK.out.at
      have k0 : w4.cell? ⟨g6, 0, none⟩ = some (.int .i64 (m.p.user : Int)) := by rw [cell_of_row w4 g6 0 _ _ _ d4]; rfl
      have k1 : w4.cell? ⟨g6, 1, none⟩ = some (.int .i64 1) := by rw [cell_of_row w4 g6 1 _ _ _ d4]; rfl
      clear c3 t3 d4 t4 hp hix
      go_wp2_with fail
      refine (step_n (m.p.user : Int) 1 HO.out HK.out).mono ?_
      rintro e w5 ⟨rfl, o5, s5⟩
      have HO := Lib.hid o5; have HK := Lib.hid s5
      clear o5 s5 kc k0 k1
      generalize wrNum b (m.p.user : Int) 1 = P at *
      obtain ⟨er, b2⟩ := P
      simp only at HO
      by_cases h0 : er = 0
      · subst h0
        have HX : Hid (wrHead m.p = wrAll wrP ((headL m.p).drop 4) b2) := Lib.hid (by rw [HST.out, if_pos rfl])
        go_wp2
        exact ⟨⟨4, b2, by omega, by first | rfl | trivial | go_num, HO, HK, HX⟩, by simp [intOf]⟩
      · have HX : Hid (wrHead m.p = (er, b2)) := Lib.hid (by rw [HST.out, if_neg h0])
        have q5 : (er != 0) = true := by simpa using h0
        have hW : wrMsg m.p = (er, b2) := by rw [wrMsg, HX.out]; simp only [wrThen, if_neg h0]
        have HW := Lib.hid hW
        clear h0 hW
        go_wp2
        go_ret
        rw [HW.out]
        exact ⟨rfl, HO.out.own⟩
    · have hix : ∀ W : World, (Instr.index 89 (.agg #[.int .i64 77, .int .i64 1, .int .i64 71, .int .i64 1, .int .i64 m.p.kind, .int .i64 1, .int .i64 m.p.user, .int .i64 1, .int .i64 m.p.src, .int .i64 2]) (.int .i64 4)).run Try.prog W = .ok (.agg #[.int .i64 m.p.src, .int .i64 2]) W := fun W => ix5 W [77, 1, 71, 1, m.p.kind, 1, m.p.user, 1, m.p.src, 2] 4 rfl (by decide)
      have hst := wrAll_at wrP (headL m.p) b 4 ((m.p.src : Int), (2 : Int)) rfl
      rw [← HX.out] at hst
      have HST : Hid (wrHead m.p = if (wrNum b (m.p.src : Int) 2).1 = 0 then wrAll wrP ((headL m.p).drop 5) (wrNum b (m.p.src : Int) 2).2 else wrNum b (m.p.src : Int) 2) := Lib.hid hst
      clear hst HX
      go_wp2_with (refine wpList_allocZ rfl 88 rfl _ zero22 ?_)
      intro g6 w3 e3 c3 t3 s3
      have l6 : wr.heap.size ≤ g6 := by omega
      clear e3 s3
      go_wp2_with (refine wpList_store_blk rfl 88 _ _ rfl g6 _ [.int .i64 (m.p.src : Int), .int .i64 2] _ rfl rfl c3 rfl info22 (by intro v hv; simp at hv; rcases hv with rfl | rfl <;> rfl) ?_)
      intro w4 d4 t4 _
      have hp : Pure wr w4 := t3.trans t4 fun q hq e => by omega
      have HO := Lib.hid (HO.out.next hp); have HK : Hid (WrCell w4 K g) := Lib.hid (hp.obj HK.out (fun e => e))
      have kc := HK.out.at
      have k0 : w4.cell? ⟨g6, 0, none⟩ = some (.int .i64 (m.p.src : Int)) := by rw [cell_of_row w4 g6 0 _ _ _ d4]; rfl
      have k1 : w4.cell? ⟨g6, 1, none⟩ = some (.int .i64 2) := by rw [cell_of_row w4 g6 1 _ _ _ d4]; rfl
      clear c3 t3 d4 t4 hp hix
      go_wp2_with fail
      refine (step_n (m.p.src : Int) 2 HO.out HK.out).mono ?_
      rintro e w5 ⟨rfl, o5, s5⟩
      have HO := Lib.hid o5; have HK := Lib.hid s5
      clear o5 s5 kc k0 k1
      generalize wrNum b (m.p.src : Int) 2 = P at *
      obtain ⟨er, b2⟩ := P
      simp only at HO
      by_cases h0 : er = 0
      · subst h0
        have HX : Hid (wrHead m.p = wrAll wrP ((headL m.p).drop 5) b2) := Lib.hid (by rw [HST.out, if_pos rfl])
        go_wp2
        exact ⟨⟨5, b2, by omega, by first | rfl | trivial | go_num, HO, HK, HX⟩, by simp [intOf]⟩
      · have HX : Hid (wrHead m.p = (er, b2)) := Lib.hid (by rw [HST.out, if_neg h0])
        have q5 : (er != 0) = true := by simpa using h0
        have hW : wrMsg m.p = (er, b2) := by rw [wrMsg, HX.out]; simp only [wrThen, if_neg h0]
        have HW := Lib.hid hW
        clear h0 hW
        go_wp2
        go_ret
        rw [HW.out]
        exact ⟨rfl, HO.out.own⟩
    · have hH : wrHead m.p = (0, b) := by rw [HX.out]; rfl
      have hM : wrMsg m.p = wrThen (wrThen (wrList wrEnt m.p.ents b) fun b => wrList wrPut m.p.wants b) fun b => wrList wrT2 m.p.objs b := by
        rw [wrMsg, hH]; rfl
      rw [← HA.out.same] at hM
      have HM := Lib.hid hM
      have HE : Hid (wr.heap[gm]? = some (Obj.cells (msgC m).toArray 26 (0, 0))) := Lib.hid (HO.out.own.pure.obj HE0.out (fun e => e))
      clear hH hM HX
      go_wp2_with fail
      have HXE : Hid True := Lib.hid trivial
      refine wp_region_G (S := fun w' => Pure wr w' ∧ Held [(K, Obj.cells #[.pointer (some ⟨g, 0, none⟩)] 51 (0, 0)), (gm, Obj.cells (msgC m).toArray 26 (0, 0))] w') (T := fun _ _ _ => True) (by kernel_rfl) ⟨(Turn.refl _ _).drew, held_cons (show wr.drew.heap[_]? = _ from HK.out) (held_cons (show wr.drew.heap[_]? = _ from HE.out) (held_nil _))⟩ trivial ?_
      have HG := Grow.held wr [(K, Obj.cells #[.pointer (some ⟨g, 0, none⟩)] 51 (0, 0)), (gm, Obj.cells (msgC m).toArray 26 (0, 0))]
      refine atN 0 ?_
      iterate 6
        refine anyG_y HG (v := ?_) rfl (by kernel_rfl) (fun _ _ _ h => h) (fun _ _ _ => Iff.rfl) (Or.inl ⟨by rfl, fun w hSw => ?_⟩) ?_
        rotate_left
        · skip
          have kc := WrCell.at (show WrCell w K g from hSw.2.head)
          obtain ⟨c0, c1, c2, c3, c4, c5⟩ := msg_at (show w.heap[gm]? = _ from hSw.2.tail.head)
          first | (go_simp; done) | (go_simp; with_reducible rfl)
        simp only [Nat.reduceAdd, AP]
      refine anyG_tail [6, 7] (k := 6) (by kernel_rfl) (fun w8a hS _ => ?_)
      simp only [List.filterMap_cons, List.filterMap_nil, List.getElem?_toArray, List.getElem?_cons_succ, List.getElem?_cons_zero]
      obtain ⟨hpS, hS⟩ := hS
      clear HG
      have HO := Lib.hid (HO.out.next hpS); have HK : Hid (WrCell w8a K g) := Lib.hid hS.head; have HE := Lib.hid hS.tail.head
      clear hS hpS
      go_wp2_with fail
      refine (listE_any w0 _ g K b m.entV m.es HA.out.ents HO.out HK.out (by have := HA.out.ents.len; omega)).mono ?_
      rintro e w8 ⟨rfl, o9, s9⟩
      have HO := Lib.hid o9; have HK := Lib.hid s9; have HE : Hid (w8.heap[gm]? = some (Obj.cells (msgC m).toArray 26 (0, 0))) := Lib.hid (o9.own.pure.obj HE0.out (fun e => e))
      clear o9 s9
      generalize wrList wrEnt (m.es.map (·.p)) b = P at *
      obtain ⟨er, b2⟩ := P
      simp only at HO
      by_cases h0 : er = 0
      case neg =>
        have q5 : (er != 0) = true := by simpa using h0
        have hW : wrMsg m.p = (er, b2) := by rw [HM.out]; simp only [wrThen, if_neg h0]
        have HW := Lib.hid hW
        clear h0 hW
        go_wp2
        go_ret
        rw [HW.out]
        exact ⟨rfl, HO.out.own⟩
      subst h0
      have HM : Hid (wrMsg m.p = wrThen (wrList wrPut m.p.wants b2) fun b => wrList wrT2 m.p.objs b) := Lib.hid (by rw [HM.out]; rfl)
      go_wp2_with fail
      refine wp_region_G (S := fun w' => Pure w8 w' ∧ Held [(K, Obj.cells #[.pointer (some ⟨g, 0, none⟩)] 51 (0, 0)), (gm, Obj.cells (msgC m).toArray 26 (0, 0))] w') (T := fun _ _ _ => True) (by kernel_rfl) ⟨(Turn.refl _ _).drew, held_cons (show w8.drew.heap[_]? = _ from HK.out) (held_cons (show w8.drew.heap[_]? = _ from HE.out) (held_nil _))⟩ trivial ?_
      have HG := Grow.held w8 [(K, Obj.cells #[.pointer (some ⟨g, 0, none⟩)] 51 (0, 0)), (gm, Obj.cells (msgC m).toArray 26 (0, 0))]
      refine atN 0 ?_
      iterate 7
        refine anyG_y HG (v := ?_) rfl (by kernel_rfl) (fun _ _ _ h => h) (fun _ _ _ => Iff.rfl) (Or.inl ⟨by rfl, fun w hSw => ?_⟩) ?_
        rotate_left
        · skip
          have kc := WrCell.at (show WrCell w K g from hSw.2.head)
          obtain ⟨c0, c1, c2, c3, c4, c5⟩ := msg_at (show w.heap[gm]? = _ from hSw.2.tail.head)
          first | (go_simp; done) | (go_simp; with_reducible rfl)
        simp only [Nat.reduceAdd, AP]
      refine anyG_tail [7, 8] (k := 7) (by kernel_rfl) (fun w10a hS _ => ?_)
      simp only [List.filterMap_cons, List.filterMap_nil, List.getElem?_toArray, List.getElem?_cons_succ, List.getElem?_cons_zero]
      obtain ⟨hpS, hS⟩ := hS
      clear HG
      have HO := Lib.hid (HO.out.next hpS); have HK : Hid (WrCell w10a K g) := Lib.hid hS.head; have HE := Lib.hid hS.tail.head
      clear hS hpS
      go_wp2_with fail
      refine (listH_any w0 _ g K b2 m.wantV m.p.wants HA.out.wants HO.out HK.out (by have := HA.out.wlen; omega)).mono ?_
      rintro e w10 ⟨rfl, o9, s9⟩
      have HO := Lib.hid o9; have HK := Lib.hid s9; have HE : Hid (w10.heap[gm]? = some (Obj.cells (msgC m).toArray 26 (0, 0))) := Lib.hid (o9.own.pure.obj HE0.out (fun e => e))
      clear o9 s9
      generalize wrList wrPut m.p.wants b2 = P at *
      obtain ⟨er, b3⟩ := P
      simp only at HO
      by_cases h0 : er = 0
      case neg =>
        have q5 : (er != 0) = true := by simpa using h0
        have hW : wrMsg m.p = (er, b3) := by rw [HM.out]; simp only [wrThen, if_neg h0]
        have HW := Lib.hid hW
        clear h0 hW
        go_wp2
        go_ret
        rw [HW.out]
        exact ⟨rfl, HO.out.own⟩
      subst h0
      have HM : Hid (wrMsg m.p = wrList wrT2 m.p.objs b3) := Lib.hid (by rw [HM.out]; rfl)
      go_wp2_with fail
      refine wp_region_G (S := fun w' => Pure w10 w' ∧ Held [(K, Obj.cells #[.pointer (some ⟨g, 0, none⟩)] 51 (0, 0)), (gm, Obj.cells (msgC m).toArray 26 (0, 0))] w') (T := fun _ _ _ => True) (by kernel_rfl) ⟨(Turn.refl _ _).drew, held_cons (show w10.drew.heap[_]? = _ from HK.out) (held_cons (show w10.drew.heap[_]? = _ from HE.out) (held_nil _))⟩ trivial ?_
      have HG := Grow.held w10 [(K, Obj.cells #[.pointer (some ⟨g, 0, none⟩)] 51 (0, 0)), (gm, Obj.cells (msgC m).toArray 26 (0, 0))]
      refine atN 0 ?_
      iterate 6
        refine anyG_y HG (v := ?_) rfl (by kernel_rfl) (fun _ _ _ h => h) (fun _ _ _ => Iff.rfl) (Or.inl ⟨by rfl, fun w hSw => ?_⟩) ?_
        rotate_left
        · skip
          have kc := WrCell.at (show WrCell w K g from hSw.2.head)
          obtain ⟨c0, c1, c2, c3, c4, c5⟩ := msg_at (show w.heap[gm]? = _ from hSw.2.tail.head)
          first | (go_simp; done) | (go_simp; with_reducible rfl)
        simp only [Nat.reduceAdd, AP]
      refine anyG_tail [6, 7] (k := 6) (by kernel_rfl) (fun w12a hS _ => ?_)
      simp only [List.filterMap_cons, List.filterMap_nil, List.getElem?_toArray, List.getElem?_cons_succ, List.getElem?_cons_zero]
      obtain ⟨hpS, hS⟩ := hS
      clear HG
      have HO := Lib.hid (HO.out.next hpS); have HK : Hid (WrCell w12a K g) := Lib.hid hS.head; have HE := Lib.hid hS.tail.head
      clear hS hpS
      go_wp2_with fail
      refine (listT_any w0 _ g K b3 m.objV m.p.objs HA.out.objs HO.out HK.out HA.out.obj (by have := HA.out.olen; omega)).mono ?_
      rintro e w12 ⟨rfl, o9, s9⟩
      have HO := Lib.hid o9; have HK := Lib.hid s9; have HE : Hid (w12.heap[gm]? = some (Obj.cells (msgC m).toArray 26 (0, 0))) := Lib.hid (o9.own.pure.obj HE0.out (fun e => e))
      clear o9 s9
      generalize wrList wrT2 m.p.objs b3 = P at *
      go_wp2
      go_ret
      rw [HM.out]
      exact ⟨rfl, HO.out.own⟩
end Go.Proofs.Ytigkmdjdnkbdkaa
