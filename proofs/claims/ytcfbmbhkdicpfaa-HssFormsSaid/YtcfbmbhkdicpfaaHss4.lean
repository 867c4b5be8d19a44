/- Chapter 6: public keys, what is left, signatures. Chapter 6: signatures. -/
import Derived.Test.YtcfbmbhkdicpfaaHss2
import Derived.Test.YtcfbmbhkdicpfaaRowN
namespace Go.Proofs.Ytcfbmbhkdicpfaa
open Go.RowKit
set_option maxRecDepth 100000

set_option maxHeartbeats 4000000 in
theorem HPublic_any (w : World) (k : LKey) : Calls Try.prog 11 #[.agg (lkC k).toArray] w fun e w' => e = .returned (.tuple #[.string (bstr (hpubV k).1), .int .i64 (hpubV k).2]) ∧ Pure w w' := by
  have hmay := fun W => HMay_any W k
  have hup := fun W (h n : Nat) (hk : k.height = (h : Int)) (h5 : h ≤ 5) (hn : k.next = (n : Int)) => upper_any W k h n hk h5 hn
  have hpv : hpubV k = if hmayB k = true then (beB 2 4 ++ (lpubV (upV k)).1, 0) else ([], 600) := rfl
  have hnm := fun W => hnum_any W 2 (by omega)
  obtain ⟨C, hC⟩ : ∃ C, C = lkC k := ⟨_, rfl⟩
  rw [← hC] at hmay hup ⊢
  have hCl : C.length = 5 := by rw [hC]; rfl
  have HCI : Hid ((Try.prog.info? 23).map (·.size) = some C.length) := Lib.hid (by rw [hCl]; exact infoHK)
  clear hC hCl
  have HNM := Lib.hid hnm
  clear hnm
  by_cases hB : hmayB k = true
  · obtain ⟨o, h, n, h1, h2, h3, h4, h5, h6, h7, h8, h9⟩ := hmay_parts hB
    have hu := fun W => hup W h n h3 h5 h8
    have huv : ({ k with next := ((n / 2 ^ h : Nat) : Int) } : LKey) = upV k := by rw [upV, upN, h3, h8]; rfl
    have hul := up_may hB
    have hpl := fun W => LPublic_any W (upV k)
    rw [huv] at hu
    rw [hB] at hmay
    rw [if_pos hB] at hpv
    rw [hpv]
    generalize upV k = U at *
    have hlen := lpub_length hul
    generalize lpubV U = LP at *
    obtain ⟨lp, le⟩ := LP
    simp only at hlen ⊢
    have hb := beB_length 2 4
    generalize beB 2 4 = b2 at *
    have zb : (bstr b2).size = 4 := by rw [bstr_size, hb]
    have zl : (bstr lp).size = 56 := by rw [bstr_size, hlen]
    obtain ⟨A1, hA1⟩ : ∃ A1, A1 = b2 ++ lp := ⟨_, rfl⟩
    have A1l : A1.length = 4 + 56 := by rw [hA1, List.length_append]; first | rfl | omega | (simp; omega) | simp
    have aA1 : bstr b2 ++ bstr lp = bstr A1 := by rw [hA1]; exact bstr_app b2 lp
    have zA1 : (bstr A1).size = 4 + 56 := by rw [bstr_size, A1l]
    have nA1 : ¬ (9223372036854775807 < 4 + 56) := by omega
    rw [← hA1]
    have HM := Lib.hid hmay; have HU := Lib.hid hu; have HP := Lib.hid hpl
    clear hmay hup hpv hu hpl h1 h2 h3 h4 h5 h6 h7 h8 h9 huv hul hB hb hlen hA1 A1l
    go_enter Try.func11, Try.ntmps11
    go_wp2_with (refine wpList_boxV rfl 23 _ rfl C rfl ?_)
    intro g1 w1 e1 c1 t1 s1
    have lg1 : w.heap.size ≤ g1 := by omega
    clear e1 s1
    have D1 := Lib.hid c1; have PT := Lib.hid t1
    clear c1 t1
    have R1 := range_of_row D1.out
    go_wp2_with (refine wpList_load_mid rfl 23 _ rfl g1 0 rfl C _ R1 Try.underlying23 rfl HCI.out ?_)
    clear R1
    refine (HM.out _).mono ?_
    rintro e w2 ⟨rfl, t2⟩
    have D1 := Lib.hid (t2.obj D1.out (fun e => e))
    have PT := Lib.hid (PT.out.pure t2)
    clear t2
    have R1 := range_of_row D1.out
    go_wp2_with (refine wpList_load_mid rfl 23 _ rfl g1 0 rfl C _ R1 Try.underlying23 rfl HCI.out ?_)
    clear R1
    refine (HU.out _).mono ?_
    rintro e w3 ⟨rfl, t3⟩
    have PT := Lib.hid (PT.out.pure t3)
    clear t3
    go_wp2_with fail
    refine (HP.out _).mono ?_
    rintro e w4 ⟨rfl, t4⟩
    have PT := Lib.hid (PT.out.pure t4)
    clear t4
    go_wp2_with fail
    refine (HNM.out _).mono ?_
    rintro e w5 ⟨rfl, t5⟩
    have PT := Lib.hid (PT.out.pure t5)
    clear t5
    go_wp2
    go_ret2
    exact ⟨rfl, PT.out⟩
  · have hB2 : hmayB k = false := by simpa using hB
    rw [hB2] at hmay
    rw [if_neg hB] at hpv
    rw [hpv]
    have HM := Lib.hid hmay
    clear hmay hup hpv hB hB2
    go_enter Try.func11, Try.ntmps11
    go_wp2_with (refine wpList_boxV rfl 23 _ rfl C rfl ?_)
    intro g1 w1 e1 c1 t1 s1
    have lg1 : w.heap.size ≤ g1 := by omega
    clear e1 s1
    have D1 := Lib.hid c1; have PT := Lib.hid t1
    clear c1 t1
    have R1 := range_of_row D1.out
    go_wp2_with (refine wpList_load_mid rfl 23 _ rfl g1 0 rfl C _ R1 Try.underlying23 rfl HCI.out ?_)
    clear R1
    refine (HM.out _).mono ?_
    rintro e w2 ⟨rfl, t2⟩
    have PT := Lib.hid (PT.out.pure t2)
    clear t2
    go_wp2
    go_ret2
    exact ⟨rfl, PT.out⟩

set_option maxHeartbeats 4000000 in
theorem HLeft_any (w : World) (k : LKey) : Calls Try.prog 16 #[.agg (lkC k).toArray] w fun e w' => e = .returned (.int .i64 (hleftV k)) ∧ Pure w w' := by
  have hmay := fun W => HMay_any W k
  have hwh := fun W (h : Nat) (hk : k.height = (h : Int)) (h5 : h ≤ 5) => whole_any W k h hk h5
  have hpv : hleftV k = if hmayB k = true then 2 ^ (2 * k.height.toNat) - k.next else 0 := rfl
  have HC := Lib.hid (fun W g => @hk_cells k W g)
  obtain ⟨C, hC⟩ : ∃ C, C = lkC k := ⟨_, rfl⟩
  rw [← hC] at HC hmay hwh ⊢
  have hCl : C.length = 5 := by rw [hC]; rfl
  have HCI : Hid ((Try.prog.info? 23).map (·.size) = some C.length) := Lib.hid (by rw [hCl]; exact infoHK)
  clear hC hCl
  by_cases hB : hmayB k = true
  · obtain ⟨o, h, n, h1, h2, h3, h4, h5, h6, h7, h8, h9⟩ := hmay_parts hB
    have hw := fun W => hwh W h h3 h5
    rw [hB] at hmay
    rw [if_pos hB, h3, h8, Int.toNat_natCast] at hpv
    obtain ⟨hb1, hb2⟩ := big_cast (2 * h) (by omega)
    rw [hb1] at hpv
    rw [hpv]
    obtain ⟨m, hm⟩ : ∃ m, m = 2 ^ (2 * h) := ⟨_, rfl⟩
    rw [← hm] at hw hb2 h9 ⊢
    have i1 : IntKind.i64.wrap ((m : Int) - (n : Int)) = (m : Int) - (n : Int) := IntWalk.i64_in _ (by omega)
    have i2 : wrap64 ((m : Int) - (n : Int)) = (m : Int) - (n : Int) := by unfold wrap64; omega
    obtain ⟨ots, height, id, seed, next⟩ := k
    simp only at HC h8
    subst h8
    have HM := Lib.hid hmay; have HW := Lib.hid hw
    clear hmay hwh hpv hw h1 h2 h3 h4 h5 h6 h7 h9 hB hb1 hb2 hm
    go_enter Try.func16, Try.ntmps16
    go_wp2_with (refine wpList_boxV rfl 23 _ rfl C rfl ?_)
    intro g1 w1 e1 c1 t1 s1
    have lg1 : w.heap.size ≤ g1 := by omega
    clear e1 s1
    have D1 := Lib.hid c1; have PT := Lib.hid t1
    clear c1 t1
    have R1 := range_of_row D1.out
    go_wp2_with (refine wpList_load_mid rfl 23 _ rfl g1 0 rfl C _ R1 Try.underlying23 rfl HCI.out ?_)
    clear R1
    refine (HM.out _).mono ?_
    rintro e w2 ⟨rfl, t2⟩
    have D1 := Lib.hid (t2.obj D1.out (fun e => e))
    have PT := Lib.hid (PT.out.pure t2)
    clear t2
    go_wp2_with fail
    refine wp_region_G (S := fun w' => Pure w2 w' ∧ Held [(g1, Obj.cells C.toArray 23 (0, 0))] w') (T := fun _ _ _ => True) (by kernel_rfl) ⟨(Turn.refl _ _).drew, held_cons (show w2.drew.heap[_]? = _ from D1.out) (held_nil _)⟩ trivial ?_
    have HG := Grow.held w2 [(g1, Obj.cells C.toArray 23 (0, 0))]
    refine anyG_take HG (i := 0) (v := Value.agg C.toArray) rfl (by kernel_rfl) (by kernel_rfl) (by kernel_rfl) (fun _ _ _ h => h) (fun _ _ _ => Iff.rfl) (yieldsIf_load_mid (by rfl) 23 _ rfl g1 0 rfl C _ (fun w hSw => range_of_row hSw.2.head) Try.underlying23 rfl HCI.out) ?_
    simp only [AP]
    refine anyG_call HG (i := 1) (fun w hSw => HW.out w) rfl (by kernel_rfl) (by kernel_rfl) (by kernel_rfl) (fun _ _ _ h => h) (fun _ _ _ => Iff.rfl) (by rfl) (fun w hSw => by go_simp; first | done | with_reducible rfl) ?_
    simp only [AP]
    refine atN 2 ?_
    iterate 4
      refine anyG_y HG (v := ?_) rfl (by kernel_rfl) (fun _ _ _ h => h) (fun _ _ _ => Iff.rfl) (Or.inl ⟨by rfl, fun w hSw => ?_⟩) ?_
      rotate_left
      · skip
        obtain ⟨s0, s1, s2, s3, s4⟩ := HC.out _ _ hSw.2.head
        first | (go_simp; done) | (go_simp; with_reducible rfl)
      simp only [Nat.reduceAdd, AP]
    refine anyG_done (by kernel_rfl) (fun w3 hS _ => ?_) _
    obtain ⟨hpS, hS⟩ := hS
    clear HG
    have PT := Lib.hid (PT.out.pure hpS)
    clear hS hpS
    go_wp2
    go_ret
    exact ⟨rfl, PT.out⟩
  · have hB2 : hmayB k = false := by simpa using hB
    rw [hB2] at hmay
    rw [if_neg hB] at hpv
    rw [hpv]
    have HM := Lib.hid hmay
    clear hmay hwh hpv hB hB2
    go_enter Try.func16, Try.ntmps16
    go_wp2_with (refine wpList_boxV rfl 23 _ rfl C rfl ?_)
    intro g1 w1 e1 c1 t1 s1
    have lg1 : w.heap.size ≤ g1 := by omega
    clear e1 s1
    have D1 := Lib.hid c1; have PT := Lib.hid t1
    clear c1 t1
    have R1 := range_of_row D1.out
    go_wp2_with (refine wpList_load_mid rfl 23 _ rfl g1 0 rfl C _ R1 Try.underlying23 rfl HCI.out ?_)
    clear R1
    refine (HM.out _).mono ?_
    rintro e w2 ⟨rfl, t2⟩
    have PT := Lib.hid (PT.out.pure t2)
    clear t2
    go_wp2
    go_ret
    exact ⟨rfl, PT.out⟩
end Go.Proofs.Ytcfbmbhkdicpfaa
namespace Go.Proofs.Ytcfbmbhkdicpfaa
open Go.RowKit
set_option maxRecDepth 100000

/-- A key, a text, a text. -/
def sgC (k : LKey) (a b : List UInt8) : List Value := lkC k ++ [.string (bstr a), .string (bstr b)]
theorem built_sg (k : LKey) (a b : List UInt8) : Try.prog.built 73 [(0, .agg (lkC k).toArray), (1, .string (bstr a)), (2, .string (bstr b))] = some (sgC k a b).toArray := by
  obtain ⟨o, h, i, e, n⟩ := k
  kernel_rfl
theorem built_s2 (k l : LKey) (a b c d : List UInt8) : Try.prog.built 74 [(0, .agg (sgC k a b).toArray), (1, .agg (sgC l c d).toArray)] = some (sgC k a b ++ sgC l c d).toArray := by
  obtain ⟨o, h, i, e, n⟩ := k
  obtain ⟨o2, h2, i2, e2, n2⟩ := l
  kernel_rfl
theorem infoSG : (Try.prog.info? 73).map (·.size) = some 7 := by kernel_rfl
theorem zeroSG : (Try.prog.info? 73).bind (·.zero) = some (.agg (sgC LKey0 [] []).toArray) := by kernel_rfl
theorem sgC_one (k : LKey) (a b : List UInt8) : ∀ v ∈ sgC k a b, v.oneCell' = true := by
  intro v hv
  rcases List.mem_append.1 hv with h | h
  · exact lkC_one k v h
  · simp only [List.mem_cons, List.mem_nil_iff, or_false] at h
    rcases h with rfl | rfl <;> rfl
theorem zeroHKs : (Try.prog.info? 23).bind (·.zero) = some (.agg (lkC LKey0).toArray) := by kernel_rfl
/-- One of both. -/
theorem ix_s2 (w : World) (k l : LKey) (a b c d : List UInt8) (j : Nat) (hj : j < 2) : (Instr.index 74 (.agg (sgC k a b ++ sgC l c d).toArray) (.int .i64 (j : Int))).run Try.prog w = .ok (.agg (if j = 0 then sgC k a b else sgC l c d).toArray) w := by
  obtain ⟨o, h, i, e, n⟩ := k
  obtain ⟨o2, h2, i2, e2, n2⟩ := l
  rcases (by omega : j = 0 ∨ j = 1) with rfl | rfl
  · kernel_rfl
  · kernel_rfl

theorem sg_left {w : World} {g : Nat} {k : LKey} {a b : List UInt8} {T : TypeId} (h : w.heap[g]? = some (.cells (sgC k a b).toArray T (0, 0))) : w.rangeAt g 0 (lkC k) ∧ w.cell? ⟨g, 5, none⟩ = some (.string (bstr a)) ∧ w.cell? ⟨g, 6, none⟩ = some (.string (bstr b)) := by
  refine ⟨fun j v hj => ?_, ?_, ?_⟩
  · refine range_of_row h j v ?_
    rw [sgC, List.getElem?_append_left (List.getElem?_eq_some_iff.1 hj).1]
    exact hj
  · rw [cell_of_row w g 5 _ _ _ h]; rfl
  · rw [cell_of_row w g 6 _ _ _ h]; rfl

set_option maxHeartbeats 8000000 in
theorem HSign_any (w : World) (k : LKey) (msg : List UInt8) : Calls Try.prog 13 #[.agg (lkC k).toArray, .string (bstr msg)] w fun e w' =>
    e = .returned (.tuple #[.string (bstr (hsignV k msg).1), .agg (lkC (hsignV k msg).2.1).toArray, .int .i64 (hsignV k msg).2.2]) ∧ Pure w w' := by
  have hmay := fun W => HMay_any W k
  have hwh := fun W (h : Nat) (hk : k.height = (h : Int)) (h5 : h ≤ 5) => whole_any W k h hk h5
  have hup := fun W (h n : Nat) (hk : k.height = (h : Int)) (h5 : h ≤ 5) (hn : k.next = (n : Int)) => upper_any W k h n hk h5 hn
  have hlw := fun W (h n : Nat) (hk : k.height = (h : Int)) (h5 : h ≤ 5) (hn : k.next = (n : Int)) (hn2 : n ≤ 1024) (hid : k.id.length = 16) (hsd : k.seed.length = 32) => lower_any W k h n hk h5 hn hn2 hid hsd
  have hlv : hsignV k msg = if hmayB k = true ∧ msg.length ≤ 65536 then
    if k.next = ((2 ^ (2 * k.height.toNat) : Nat) : Int) then ([], LKey0, 601)
    else (beB 1 4 ++ ((lsignV (upV k) (lpubV (lowV k)).1).1 ++ ((lpubV (lowV k)).1 ++ (lsignV (lowV k) msg).1)), { k with next := k.next + 1 }, 0)
  else ([], LKey0, 600) := rfl
  have HC := Lib.hid (fun W g => @hk_cells k W g)
  have hset : ∀ v : Int, (lkC k).take 4 ++ [Value.int .i64 v] ++ (lkC k).drop 5 = lkC { k with next := v } := fun v => rfl
  obtain ⟨C, hC⟩ : ∃ C, C = lkC k := ⟨_, rfl⟩
  rw [← hC] at HC hmay hwh hup hlw hset ⊢
  have hCl : C.length = 5 := by rw [hC]; rfl
  have HCI : Hid ((Try.prog.info? 23).map (·.size) = some C.length) := Lib.hid (by rw [hCl]; exact infoHK)
  have HCL := Lib.hid hCl
  clear hC hCl
  obtain ⟨n, hn⟩ : ∃ n, n = msg.length := ⟨_, rfl⟩
  have zm : (bstr msg).size = n := by rw [bstr_size, hn]
  rw [← hn] at hlv
  have HN := Lib.hid hn
  clear hn
  by_cases hB : hmayB k = true
  · rw [hB] at hmay
    by_cases hm : n ≤ 65536
    · rw [if_pos ⟨hB, hm⟩] at hlv
      obtain ⟨o, h, q, h1, h2, h3, h4, h5, h6, h7, h8, h9⟩ := hmay_parts hB
      have hw := fun W => hwh W h h3 h5
      have hu := fun W => hup W h q h3 h5 h8
      have hl := fun W (hq : q ≤ 1024) => hlw W h q h3 h5 h8 hq h6 h7
      have huv : ({ k with next := ((q / 2 ^ h : Nat) : Int) } : LKey) = upV k := by rw [upV, upN, h3, h8]; rfl
      rw [huv] at hu
      obtain ⟨hb1, hb2⟩ := big_cast (2 * h) (by omega)
      rw [h3, Int.toNat_natCast, h8] at hlv
      obtain ⟨m, hmm⟩ : ∃ m, m = 2 ^ (2 * h) := ⟨_, rfl⟩
      rw [← hmm] at hw hlv h9 hb2
      have hl := fun W => hl W (by omega)
      have d0 : decide ((65536 : Int) < n) = false := decide_eq_false (by omega)
      have d0n : decide (65536 < n) = false := decide_eq_false (by omega)
      have HM := Lib.hid hmay; have HW := Lib.hid hw
      clear hwh hup hlw hmay hw huv hb1 hmm
      by_cases hlt : q = m
      · subst hlt
        rw [if_pos rfl] at hlv
        rw [hlv]
        have d1 : ((q : Int) == (q : Int)) = true := beq_self_eq_true _
        obtain ⟨ots, height, id, seed, next⟩ := k
        simp only at HC h8
        subst h8
        clear hlv hu hl h1 h2 h3 h4 h5 h6 h7 h9 hb2 hB hm hset
        go_enter Try.func13, Try.ntmps13
        go_wp2_with (refine wpList_boxV rfl 23 _ rfl C rfl ?_)
        intro g2 w1 e1 c1 t1 s1
        have lg2 : w.heap.size ≤ g2 := by omega
        clear e1 s1
        have D2 := Lib.hid c1; have PT := Lib.hid t1
        clear c1 t1
        go_wp2_with (refine wpList_allocZ rfl 23 rfl _ zeroHKs ?_)
        intro g5 w2 e2 c2 t2 s2
        have lg5 : w.heap.size ≤ g5 := by have := PT.out.size; omega
        have n25 : g2 ≠ g5 := by have := (Array.getElem?_eq_some_iff.1 D2.out).1; omega
        clear e2 s2
        have D5 := Lib.hid c2
        have D2 := Lib.hid (t2.obj D2.out (fun e => e))
        have PT := Lib.hid (PT.out.pure t2)
        clear c2 t2
        have R1 := range_of_row D2.out
        go_wp2_with (refine wpList_load_mid rfl 23 _ rfl g2 0 rfl C _ R1 Try.underlying23 rfl HCI.out ?_)
        clear R1
        refine (HM.out _).mono ?_
        rintro e w3 ⟨rfl, t3⟩
        have D2 := Lib.hid (t3.obj D2.out (fun e => e))
        have D5 := Lib.hid (t3.obj D5.out (fun e => e))
        have PT := Lib.hid (PT.out.pure t3)
        clear t3
        go_wp2_with fail
        refine wp_region_G (S := fun w' => Pure w3 w' ∧ Held [(g2, Obj.cells C.toArray 23 (0, 0)), (g5, Obj.cells (lkC LKey0).toArray 23 (0, 0))] w') (T := fun _ _ _ => True) (by kernel_rfl) ⟨(Turn.refl _ _).drew, held_cons (show w3.drew.heap[_]? = _ from D2.out) (held_cons (show w3.drew.heap[_]? = _ from D5.out) (held_nil _))⟩ trivial ?_
        have HG := Grow.held w3 [(g2, Obj.cells C.toArray 23 (0, 0)), (g5, Obj.cells (lkC LKey0).toArray 23 (0, 0))]
        refine atN 0 ?_
        iterate 2
          refine anyG_y HG (v := ?_) rfl (by kernel_rfl) (fun _ _ _ h => h) (fun _ _ _ => Iff.rfl) (Or.inl ⟨by rfl, fun w hSw => ?_⟩) ?_
          rotate_left
          · skip
            obtain ⟨s0, s1, s2, s3, s4⟩ := HC.out _ _ hSw.2.head
            first | (go_simp; done) | (go_simp; with_reducible rfl)
          simp only [Nat.reduceAdd, AP]
        refine anyG_take HG (i := 2) (v := Value.agg C.toArray) rfl (by kernel_rfl) (by kernel_rfl) (by kernel_rfl) (fun _ _ _ h => h) (fun _ _ _ => Iff.rfl) (yieldsIf_load_mid (by rfl) 23 _ rfl g2 0 rfl C _ (fun w hSw => range_of_row hSw.2.head) Try.underlying23 rfl HCI.out) ?_
        simp only [AP]
        refine anyG_call HG (i := 3) (fun w hSw => HW.out w) rfl (by kernel_rfl) (by kernel_rfl) (by kernel_rfl) (fun _ _ _ h => h) (fun _ _ _ => Iff.rfl) (by rfl) (fun w hSw => by go_simp; first | done | with_reducible rfl) ?_
        simp only [AP]
        refine atN 4 ?_
        iterate 2
          refine anyG_y HG (v := ?_) rfl (by kernel_rfl) (fun _ _ _ h => h) (fun _ _ _ => Iff.rfl) (Or.inl ⟨by rfl, fun w hSw => ?_⟩) ?_
          rotate_left
          · skip
            first | (go_simp; done) | (go_simp; with_reducible rfl)
          simp only [Nat.reduceAdd, AP]
        refine anyG_done (by kernel_rfl) (fun w4 hS _ => ?_) _
        obtain ⟨hpS, hS⟩ := hS
        clear HG
        have PT := Lib.hid (PT.out.pure hpS)
        have D2 := Lib.hid hS.head
        have D5 := Lib.hid hS.tail.head
        clear hS hpS
        go_wp2_with (refine wpList_store_blk rfl 23 _ _ rfl g5 _ (lkC LKey0) _ rfl rfl D5.out rfl infoHK (lkC_one _) ?_)
        intro w9 d9 t9 _
        have D5 := Lib.hid d9; have PT := Lib.hid (PT.out.trans t9 fun q hq e => by omega : Pure w w9)
        clear d9 t9
        go_wp2
        exact bodyPost_ret (v := .tuple #[.string (bstr []), .agg (lkC LKey0).toArray, .int .i64 601]) (results_tct Try.results13 _ _ g5 _ _ _ _ rfl D5.out Try.underlying23 rfl infoHK) rfl ⟨rfl, PT.out⟩
      · have hqne : ¬ ((q : Int) = (m : Int)) := by omega
        rw [if_neg hqne] at hlv
        have hUl := lsign_length (upV k) (lpubV (lowV k)).1
        have hLl := lsign_length (lowV k) msg
        have hPl := lpub_length (low_may hB)
        have hps := fun W => LPublic_any W (lowV k)
        have hs1 := fun W => LSign_any W (upV k) (lpubV (lowV k)).1
        have hs2 := fun W => LSign_any W (lowV k) msg
        generalize upV k = U at *
        generalize lowV k = L at *
        generalize lpubV L = LP at *
        obtain ⟨lp, le⟩ := LP
        simp only at hPl hUl hlv hps hs1
        generalize lsignV U lp = S1 at *
        obtain ⟨s1, U1, e1⟩ := S1
        generalize lsignV L msg = S2 at *
        obtain ⟨s2, L1, e2⟩ := S2
        simp only at hUl hLl hlv hs1 hs2
        have hb := beB_length 1 4
        have hnm := fun W => hnum_any W 1 (by omega)
        generalize beB 1 4 = b1 at *
        have zb : (bstr b1).size = 4 := by rw [bstr_size, hb]
        have zl : (bstr lp).size = 56 := by rw [bstr_size, hPl]
        obtain ⟨n1, hn1⟩ : ∃ n1, n1 = s1.length := ⟨_, rfl⟩
        obtain ⟨n2, hn2⟩ : ∃ n2, n2 = s2.length := ⟨_, rfl⟩
        rw [← hn1] at hUl
        rw [← hn2] at hLl
        have z1 : (bstr s1).size = n1 := by rw [bstr_size, hn1]
        have z2 : (bstr s2).size = n2 := by rw [bstr_size, hn2]
        obtain ⟨A1, hA1⟩ : ∃ A1, A1 = s1 ++ lp := ⟨_, rfl⟩
        have A1l : A1.length = n1 + 56 := by rw [hA1, List.length_append]; first | rfl | omega | (simp; omega) | simp
        have aA1 : bstr s1 ++ bstr lp = bstr A1 := by rw [hA1]; exact bstr_app s1 lp
        have zA1 : (bstr A1).size = n1 + 56 := by rw [bstr_size, A1l]
        have nA1 : ¬ (9223372036854775807 < n1 + 56) := by omega
        obtain ⟨A2, hA2⟩ : ∃ A2, A2 = b1 ++ A1 := ⟨_, rfl⟩
        have A2l : A2.length = 4 + (n1 + 56) := by rw [hA2, List.length_append]; first | rfl | omega | (simp; omega) | simp
        have aA2 : bstr b1 ++ bstr A1 = bstr A2 := by rw [hA2]; exact bstr_app b1 A1
        have zA2 : (bstr A2).size = 4 + (n1 + 56) := by rw [bstr_size, A2l]
        have nA2 : ¬ (9223372036854775807 < 4 + (n1 + 56)) := by omega
        obtain ⟨A3, hA3⟩ : ∃ A3, A3 = A2 ++ s2 := ⟨_, rfl⟩
        have A3l : A3.length = (4 + (n1 + 56)) + n2 := by rw [hA3, List.length_append]; first | rfl | omega | (simp; omega) | simp
        have aA3 : bstr A2 ++ bstr s2 = bstr A3 := by rw [hA3]; exact bstr_app A2 s2
        have zA3 : (bstr A3).size = (4 + (n1 + 56)) + n2 := by rw [bstr_size, A3l]
        have nA3 : ¬ (9223372036854775807 < (4 + (n1 + 56)) + n2) := by omega
        have hA : b1 ++ (s1 ++ (lp ++ s2)) = A3 := by rw [hA3, hA2, hA1]; simp only [List.append_assoc]
        rw [hA] at hlv
        rw [hlv]
        have hn0 : bstr s2 ++ (⟨#[]⟩ : ByteArray) = bstr s2 := by have := bstr_app s2 []; rw [List.append_nil] at this; exact this
        obtain ⟨OT, hOT⟩ : ∃ OT : Nat → List UInt8, OT 0 = b1 ∧ OT 1 = A2 ∧ OT 2 = A3 := ⟨fun j => if j = 0 then b1 else if j = 1 then A2 else A3, rfl, rfl, rfl⟩
        have hio := fun W => ix_s2 W U L lp lp msg [] 0 (by omega)
        have hi1 := fun W => ix_s2 W U L lp lp msg [] 1 (by omega)
        have HS1 := Lib.hid hs1; have HS2 := Lib.hid hs2; have HPS := Lib.hid hps; have HNM := Lib.hid hnm; have HU := Lib.hid hu; have HL := Lib.hid hl; have HOT := Lib.hid hOT
        have d1 : ((q : Int) == (m : Int)) = false := by simp; omega
        have d1n : (q == m) = false := by simp; omega
        have hqi : IntKind.i64.wrap ((q : Int) + 1) = (q : Int) + 1 := IntWalk.i64_in _ (by omega)
        obtain ⟨ots, height, id, seed, next⟩ := k
        simp only at HC h8 h3 hset
        subst h8
        have HH3 := Lib.hid h3
        have HSET' := Lib.hid (hset ((q : Int) + 1))
        clear hlv hu hl h1 h2 h3 h4 h5 h6 h7 h9 hb2 hB hm hset hqne hlt hps hs1 hs2 hnm hOT hA hA1 hA2 hA3 hb hPl hn1 hn2 A1l A2l A3l
        go_enter Try.func13, Try.ntmps13
        go_wp2_with (refine wpList_boxV rfl 23 _ rfl C rfl ?_)
        intro g2 w1 e1 c1 t1 s1
        have lg2 : w.heap.size ≤ g2 := by omega
        clear e1 s1
        have D2 := Lib.hid c1; have PT := Lib.hid t1
        clear c1 t1
        go_wp2_with (refine wpList_allocZ rfl 23 rfl _ zeroHKs ?_)
        intro g5 w2 e2 c2 t2 s2
        have lg5 : w.heap.size ≤ g5 := by have := PT.out.size; omega
        have n25 : g2 ≠ g5 := by have := (Array.getElem?_eq_some_iff.1 D2.out).1; omega
        clear e2 s2
        have D5 := Lib.hid c2
        have D2 := Lib.hid (t2.obj D2.out (fun e => e))
        have PT := Lib.hid (PT.out.pure t2)
        clear c2 t2
        have R1 := range_of_row D2.out
        go_wp2_with (refine wpList_load_mid rfl 23 _ rfl g2 0 rfl C _ R1 Try.underlying23 rfl HCI.out ?_)
        clear R1
        refine (HM.out _).mono ?_
        rintro e w3 ⟨rfl, t3⟩
        have D2 := Lib.hid (t3.obj D2.out (fun e => e))
        have D5 := Lib.hid (t3.obj D5.out (fun e => e))
        have PT := Lib.hid (PT.out.pure t3)
        clear t3
        go_wp2_with fail
        refine wp_region_G (S := fun w' => Pure w3 w' ∧ Held [(g2, Obj.cells C.toArray 23 (0, 0)), (g5, Obj.cells (lkC LKey0).toArray 23 (0, 0))] w') (T := fun _ _ _ => True) (by kernel_rfl) ⟨(Turn.refl _ _).drew, held_cons (show w3.drew.heap[_]? = _ from D2.out) (held_cons (show w3.drew.heap[_]? = _ from D5.out) (held_nil _))⟩ trivial ?_
        have HG := Grow.held w3 [(g2, Obj.cells C.toArray 23 (0, 0)), (g5, Obj.cells (lkC LKey0).toArray 23 (0, 0))]
        refine atN 0 ?_
        iterate 2
          refine anyG_y HG (v := ?_) rfl (by kernel_rfl) (fun _ _ _ h => h) (fun _ _ _ => Iff.rfl) (Or.inl ⟨by rfl, fun w hSw => ?_⟩) ?_
          rotate_left
          · skip
            obtain ⟨s0, s1, s2, s3, s4⟩ := HC.out _ _ hSw.2.head
            first | (go_simp; done) | (go_simp; with_reducible rfl)
          simp only [Nat.reduceAdd, AP]
        refine anyG_take HG (i := 2) (v := Value.agg C.toArray) rfl (by kernel_rfl) (by kernel_rfl) (by kernel_rfl) (fun _ _ _ h => h) (fun _ _ _ => Iff.rfl) (yieldsIf_load_mid (by rfl) 23 _ rfl g2 0 rfl C _ (fun w hSw => range_of_row hSw.2.head) Try.underlying23 rfl HCI.out) ?_
        simp only [AP]
        refine anyG_call HG (i := 3) (fun w hSw => HW.out w) rfl (by kernel_rfl) (by kernel_rfl) (by kernel_rfl) (fun _ _ _ h => h) (fun _ _ _ => Iff.rfl) (by rfl) (fun w hSw => by go_simp; first | done | with_reducible rfl) ?_
        simp only [AP]
        refine atN 4 ?_
        iterate 2
          refine anyG_y HG (v := ?_) rfl (by kernel_rfl) (fun _ _ _ h => h) (fun _ _ _ => Iff.rfl) (Or.inl ⟨by rfl, fun w hSw => ?_⟩) ?_
          rotate_left
          · skip
            first | (go_simp; done) | (go_simp; with_reducible rfl)
          simp only [Nat.reduceAdd, AP]
        refine anyG_done (by kernel_rfl) (fun w4 hS _ => ?_) _
        obtain ⟨hpS, hS⟩ := hS
        clear HG
        have PT := Lib.hid (PT.out.pure hpS)
        have D2 := Lib.hid hS.head
        have D5 := Lib.hid hS.tail.head
        clear hS hpS
        have R1 := range_of_row D2.out
        go_wp2_with (refine wpList_load_mid rfl 23 _ rfl g2 0 rfl C _ R1 Try.underlying23 rfl HCI.out ?_)
        clear R1
        refine (HL.out _).mono ?_
        rintro e w5 ⟨rfl, t5⟩
        have D2 := Lib.hid (t5.obj D2.out (fun e => e))
        have D5 := Lib.hid (t5.obj D5.out (fun e => e))
        have PT := Lib.hid (PT.out.pure t5)
        clear t5
        go_wp2_with (refine wpList_allocZ rfl 68 rfl _ zeroLK ?_)
        intro g7 w6 e6 c6 t6 s6
        have lg7 : w.heap.size ≤ g7 := by have := PT.out.size; omega
        have n27 : g2 ≠ g7 := by have := (Array.getElem?_eq_some_iff.1 D2.out).1; omega
        have n57 : g5 ≠ g7 := by have := (Array.getElem?_eq_some_iff.1 D5.out).1; omega
        clear e6 s6
        have D7 := Lib.hid c6
        have D2 := Lib.hid (t6.obj D2.out (fun e => e))
        have D5 := Lib.hid (t6.obj D5.out (fun e => e))
        have PT := Lib.hid (PT.out.pure t6)
        clear c6 t6
        go_wp2_with (refine wpList_store_blk rfl 68 _ _ rfl g7 _ (lkC L) _ rfl rfl D7.out rfl infoLK (lkC_one _) ?_)
        intro w7 d7 t7 _
        have D7 := Lib.hid d7; have D2 := Lib.hid (t7.obj D2.out n27); have D5 := Lib.hid (t7.obj D5.out n57); have PT := Lib.hid (PT.out.newer t7 lg7)
        clear d7 t7
        have R1 := range_of_row D7.out
        go_wp2_with (refine wpList_load_mid rfl 68 _ rfl g7 0 rfl (lkC L) _ R1 Try.underlying68 rfl infoLK ?_)
        clear R1
        refine (HPS.out _).mono ?_
        rintro e w8 ⟨rfl, t8⟩
        have D2 := Lib.hid (t8.obj D2.out (fun e => e))
        have D5 := Lib.hid (t8.obj D5.out (fun e => e))
        have D7 := Lib.hid (t8.obj D7.out (fun e => e))
        have PT := Lib.hid (PT.out.pure t8)
        clear t8
        go_wp2_with fail
        refine (HNM.out _).mono ?_
        rintro e w9 ⟨rfl, t9⟩
        have D2 := Lib.hid (t9.obj D2.out (fun e => e))
        have D5 := Lib.hid (t9.obj D5.out (fun e => e))
        have D7 := Lib.hid (t9.obj D7.out (fun e => e))
        have PT := Lib.hid (PT.out.pure t9)
        clear t9
        go_wp2_with fail
        refine wp_region_G (S := fun w' => Pure w9 w' ∧ Held [(g2, Obj.cells C.toArray 23 (0, 0)), (g5, Obj.cells (lkC LKey0).toArray 23 (0, 0)), (g7, Obj.cells (lkC L).toArray 68 (0, 0))] w') (T := fun _ _ _ => True) (by kernel_rfl) ⟨(Turn.refl _ _).drew, held_cons (show w9.drew.heap[_]? = _ from D2.out) (held_cons (show w9.drew.heap[_]? = _ from D5.out) (held_cons (show w9.drew.heap[_]? = _ from D7.out) (held_nil _)))⟩ trivial ?_
        have HG := Grow.held w9 [(g2, Obj.cells C.toArray 23 (0, 0)), (g5, Obj.cells (lkC LKey0).toArray 23 (0, 0)), (g7, Obj.cells (lkC L).toArray 68 (0, 0))]
        refine anyG_take HG (i := 0) (v := Value.agg C.toArray) rfl (by kernel_rfl) (by kernel_rfl) (by kernel_rfl) (fun _ _ _ h => h) (fun _ _ _ => Iff.rfl) (yieldsIf_load_mid (by rfl) 23 _ rfl g2 0 rfl C _ (fun w hSw => range_of_row hSw.2.head) Try.underlying23 rfl HCI.out) ?_
        simp only [AP]
        refine anyG_call HG (i := 1) (fun w hSw => HU.out w) rfl (by kernel_rfl) (by kernel_rfl) (by kernel_rfl) (fun _ _ _ h => h) (fun _ _ _ => Iff.rfl) (by rfl) (fun w hSw => by go_simp; first | done | with_reducible rfl) ?_
        simp only [AP]
        refine atN 2 ?_
        iterate 2
          refine anyG_y HG (v := ?_) rfl (by kernel_rfl) (fun _ _ _ h => h) (fun _ _ _ => Iff.rfl) (Or.inl ⟨by rfl, fun w hSw => ?_⟩) ?_
          rotate_left
          · skip
            first | (go_simp; done) | (go_simp; with_reducible rfl)
          simp only [Nat.reduceAdd, AP]
        refine anyG_take HG (i := 4) (v := Value.agg (sgC U lp lp).toArray) rfl (by kernel_rfl) (by kernel_rfl) (by kernel_rfl) (fun _ _ _ h => h) (fun _ _ _ => Iff.rfl) (yieldsIf_build (by rfl) _ _ rfl _ _ (built_sg U lp lp) (by simp [Act.eval] <;> rfl)) ?_
        simp only [AP]
        refine anyG_take HG (i := 5) (v := Value.agg (lkC L).toArray) rfl (by kernel_rfl) (by kernel_rfl) (by kernel_rfl) (fun _ _ _ h => h) (fun _ _ _ => Iff.rfl) (yieldsIf_load_mid (by rfl) 68 _ rfl g7 0 rfl (lkC L) _ (fun w hSw => range_of_row hSw.2.tail.tail.head) Try.underlying68 rfl infoLK) ?_
        simp only [AP]
        refine atN 6 ?_
        iterate 1
          refine anyG_y HG (v := ?_) rfl (by kernel_rfl) (fun _ _ _ h => h) (fun _ _ _ => Iff.rfl) (Or.inl ⟨by rfl, fun w hSw => ?_⟩) ?_
          rotate_left
          · skip
            first | (go_simp; done) | (go_simp; with_reducible rfl)
          simp only [Nat.reduceAdd, AP]
        refine anyG_take HG (i := 7) (v := Value.agg (sgC L msg []).toArray) rfl (by kernel_rfl) (by kernel_rfl) (by kernel_rfl) (fun _ _ _ h => h) (fun _ _ _ => Iff.rfl) (yieldsIf_build (by rfl) _ _ rfl _ _ (built_sg L msg []) (by simp [Act.eval] <;> rfl)) ?_
        simp only [AP]
        refine anyG_take HG (i := 8) (v := Value.agg (sgC U lp lp ++ sgC L msg []).toArray) rfl (by kernel_rfl) (by kernel_rfl) (by kernel_rfl) (fun _ _ _ h => h) (fun _ _ _ => Iff.rfl) (yieldsIf_build (by rfl) _ _ rfl _ _ (built_s2 U L lp lp msg []) (by simp [Act.eval] <;> rfl)) ?_
        simp only [AP]
        refine atN 9 ?_
        iterate 1
          refine anyG_y HG (v := ?_) rfl (by kernel_rfl) (fun _ _ _ h => h) (fun _ _ _ => Iff.rfl) (Or.inl ⟨by rfl, fun w hSw => ?_⟩) ?_
          rotate_left
          · skip
            first | (go_simp; done) | (go_simp; with_reducible rfl)
          simp only [Nat.reduceAdd, AP]
        refine anyG_done (by kernel_rfl) (fun w10 hS _ => ?_) _
        obtain ⟨hpS, hS⟩ := hS
        clear HG
        have PT := Lib.hid (PT.out.pure hpS)
        have D2 := Lib.hid hS.head
        have D5 := Lib.hid hS.tail.head
        have D7 := Lib.hid hS.tail.tail.head
        clear hS hpS
        have HIO := Lib.hid hio; have HI1 := Lib.hid hi1; have HAA := Lib.hid (And.intro aA1 (And.intro aA2 aA3)); have HZZ := Lib.hid (And.intro zb (And.intro zl (And.intro z1 z2))); have HZA := Lib.hid (And.intro zA1 (And.intro zA2 zA3)); have HNA := Lib.hid (And.intro nA1 (And.intro nA2 nA3))
        have HUL : Hid (n1 ≤ 3000 ∧ n2 ≤ 3000) := Lib.hid ⟨hUl, hLl⟩
        have N25 : Hid (g2 ≠ g5) := Lib.hid n25
        clear n25
        have HQM := Lib.hid (And.intro d1 (And.intro d1n hqi))
        clear hio hi1 aA1 aA2 aA3 zb zl z1 z2 zA1 zA2 zA3 nA1 nA2 nA3 hUl hLl d1 d1n hqi n57 n27 d0 d0n
        go_wp2_with fail
        go_loopw [10, 50] (fun o i wr => ∃ j : Nat, j ≤ 2 ∧ i = .int .i64 (j : Int) ∧ o = .string (bstr (OT j)) ∧ Hid (wr.heap[g2]? = some (Obj.cells C.toArray 23 (0, 0))) ∧ Hid (wr.heap[g5]? = some (Obj.cells (lkC LKey0).toArray 23 (0, 0))) ∧ Hid (Pure w wr)) (fun _ i _ => 2 - (intOf i).toNat)
        case atStart => exact ⟨0, by omega, by first | rfl | trivial, by rw [HOT.out.1], D2, D5, PT⟩
        case round =>
          obtain ⟨j, hj, rfl, rfl, D2, D5, PT⟩ := hrel
          rcases (by omega : j = 0 ∨ j = 1 ∨ j = 2) with rfl | rfl | rfl
          · have hix := HIO.out
            rw [HOT.out.1]
            obtain ⟨aA1, aA2, aA3⟩ := HAA.out; obtain ⟨zb, zl, z1, z2⟩ := HZZ.out; obtain ⟨zA1, zA2, zA3⟩ := HZA.out; obtain ⟨nA1, nA2, nA3⟩ := HNA.out
            have hE := HOT.out.2.1
            have HE := Lib.hid hE
            clear hE
            obtain ⟨XC, hXC⟩ : ∃ XC, XC = sgC U lp lp := ⟨_, rfl⟩
            have hXl : XC.length = 7 := by rw [hXC]; rfl
            have hX1 : ∀ v ∈ XC, v.oneCell' = true := by rw [hXC]; exact sgC_one _ _ _
            have HXL := Lib.hid (And.intro hXl (And.intro hX1 hXC))
            have hix2 : ∀ W, (Instr.index 74 (.agg (sgC U lp lp ++ sgC L msg []).toArray) (.int .i64 0)).run Try.prog W = .ok (.agg XC.toArray) W := fun W => by rw [hXC]; exact hix W
            clear hix hXl hX1 hXC
            go_wp2_with (refine wpList_allocZ rfl 73 rfl _ zeroSG ?_)
            intro g12 w11 e11 c11 t11 s11
            have lg12 : w.heap.size ≤ g12 := by have := PT.out.size; omega
            have n212 : g2 ≠ g12 := by have := (Array.getElem?_eq_some_iff.1 D2.out).1; omega
            have n512 : g5 ≠ g12 := by have := (Array.getElem?_eq_some_iff.1 D5.out).1; omega
            clear e11 s11
            have D12 := Lib.hid c11
            have D2 := Lib.hid (t11.obj D2.out (fun e => e))
            have D5 := Lib.hid (t11.obj D5.out (fun e => e))
            have PT := Lib.hid (PT.out.pure t11)
            clear c11 t11
            go_wp2_with (refine wpList_store_blk rfl 73 _ _ rfl g12 _ XC _ rfl rfl D12.out (by rw [HXL.out.1]; rfl) (by rw [HXL.out.1]; exact infoSG) HXL.out.2.1 ?_)
            intro w12 d12 t12 _
            have D12 := Lib.hid d12; have D2 := Lib.hid (t12.obj D2.out n212); have D5 := Lib.hid (t12.obj D5.out n512); have PT := Lib.hid (PT.out.newer t12 lg12)
            clear d12 t12 hix2
            rw [HXL.out.2.2] at D12
            obtain ⟨rg, k5, k6⟩ := sg_left D12.out
            go_wp2_with (refine wpList_load_mid rfl 68 _ rfl g12 0 rfl (lkC U) _ rg Try.underlying68 rfl infoLK ?_)
            clear rg k5 k6
            refine (HS1.out _).mono ?_
            rintro e w13 ⟨rfl, t13⟩
            have D2 := Lib.hid (t13.obj D2.out (fun e => e))
            have D5 := Lib.hid (t13.obj D5.out (fun e => e))
            have D12 := Lib.hid (t13.obj D12.out (fun e => e))
            have PT := Lib.hid (PT.out.pure t13)
            clear t13
            go_wp2_with (refine wpList_allocZ rfl 68 rfl _ zeroLK ?_)
            intro g14 w14 e14 c14 t14 s14
            have lg14 : w.heap.size ≤ g14 := by have := PT.out.size; omega
            have n214 : g2 ≠ g14 := by have := (Array.getElem?_eq_some_iff.1 D2.out).1; omega
            have n514 : g5 ≠ g14 := by have := (Array.getElem?_eq_some_iff.1 D5.out).1; omega
            have n1214 : g12 ≠ g14 := by have := (Array.getElem?_eq_some_iff.1 D12.out).1; omega
            clear e14 s14
            have D2 := Lib.hid (t14.obj D2.out (fun e => e))
            have D5 := Lib.hid (t14.obj D5.out (fun e => e))
            have D12 := Lib.hid (t14.obj D12.out (fun e => e))
            have PT := Lib.hid (PT.out.pure t14)
            go_wp2_with (refine wpList_store_blk rfl 68 _ _ rfl g14 _ (lkC U1) _ rfl rfl c14 rfl infoLK (lkC_one _) ?_)
            intro w15 d15 t15 _
            have D12 := Lib.hid (t15.obj D12.out n1214); have D2 := Lib.hid (t15.obj D2.out n214); have D5 := Lib.hid (t15.obj D5.out n514); have PT := Lib.hid (PT.out.newer t15 lg14)
            clear c14 t14 d15 t15
            obtain ⟨rg, k5, k6⟩ := sg_left D12.out
            clear rg k5
            go_wp2
            exact ⟨⟨1, by omega, by first | rfl | trivial, by rw [HE.out], D2, D5, PT⟩, by simp [intOf]⟩
          · have hix := HI1.out
            rw [HOT.out.2.1]
            obtain ⟨aA1, aA2, aA3⟩ := HAA.out; obtain ⟨zb, zl, z1, z2⟩ := HZZ.out; obtain ⟨zA1, zA2, zA3⟩ := HZA.out; obtain ⟨nA1, nA2, nA3⟩ := HNA.out
            have hE := HOT.out.2.2
            have HE := Lib.hid hE
            clear hE
            have hn0 : bstr s2 ++ bstr [] = bstr s2 := hn0
            have zn0 : (bstr []).size = 0 := rfl
            have nn0 : ¬ (9223372036854775807 < n2) := by have := HUL.out.2; omega
            obtain ⟨XC, hXC⟩ : ∃ XC, XC = sgC L msg [] := ⟨_, rfl⟩
            have hXl : XC.length = 7 := by rw [hXC]; rfl
            have hX1 : ∀ v ∈ XC, v.oneCell' = true := by rw [hXC]; exact sgC_one _ _ _
            have HXL := Lib.hid (And.intro hXl (And.intro hX1 hXC))
            have hix2 : ∀ W, (Instr.index 74 (.agg (sgC U lp lp ++ sgC L msg []).toArray) (.int .i64 1)).run Try.prog W = .ok (.agg XC.toArray) W := fun W => by rw [hXC]; exact hix W
            clear hix hXl hX1 hXC
            go_wp2_with (refine wpList_allocZ rfl 73 rfl _ zeroSG ?_)
            intro g12 w11 e11 c11 t11 s11
            have lg12 : w.heap.size ≤ g12 := by have := PT.out.size; omega
            have n212 : g2 ≠ g12 := by have := (Array.getElem?_eq_some_iff.1 D2.out).1; omega
            have n512 : g5 ≠ g12 := by have := (Array.getElem?_eq_some_iff.1 D5.out).1; omega
            clear e11 s11
            have D12 := Lib.hid c11
            have D2 := Lib.hid (t11.obj D2.out (fun e => e))
            have D5 := Lib.hid (t11.obj D5.out (fun e => e))
            have PT := Lib.hid (PT.out.pure t11)
            clear c11 t11
            go_wp2_with (refine wpList_store_blk rfl 73 _ _ rfl g12 _ XC _ rfl rfl D12.out (by rw [HXL.out.1]; rfl) (by rw [HXL.out.1]; exact infoSG) HXL.out.2.1 ?_)
            intro w12 d12 t12 _
            have D12 := Lib.hid d12; have D2 := Lib.hid (t12.obj D2.out n212); have D5 := Lib.hid (t12.obj D5.out n512); have PT := Lib.hid (PT.out.newer t12 lg12)
            clear d12 t12 hix2
            rw [HXL.out.2.2] at D12
            obtain ⟨rg, k5, k6⟩ := sg_left D12.out
            go_wp2_with (refine wpList_load_mid rfl 68 _ rfl g12 0 rfl (lkC L) _ rg Try.underlying68 rfl infoLK ?_)
            clear rg k5 k6
            refine (HS2.out _).mono ?_
            rintro e w13 ⟨rfl, t13⟩
            have D2 := Lib.hid (t13.obj D2.out (fun e => e))
            have D5 := Lib.hid (t13.obj D5.out (fun e => e))
            have D12 := Lib.hid (t13.obj D12.out (fun e => e))
            have PT := Lib.hid (PT.out.pure t13)
            clear t13
            go_wp2_with (refine wpList_allocZ rfl 68 rfl _ zeroLK ?_)
            intro g14 w14 e14 c14 t14 s14
            have lg14 : w.heap.size ≤ g14 := by have := PT.out.size; omega
            have n214 : g2 ≠ g14 := by have := (Array.getElem?_eq_some_iff.1 D2.out).1; omega
            have n514 : g5 ≠ g14 := by have := (Array.getElem?_eq_some_iff.1 D5.out).1; omega
            have n1214 : g12 ≠ g14 := by have := (Array.getElem?_eq_some_iff.1 D12.out).1; omega
            clear e14 s14
            have D2 := Lib.hid (t14.obj D2.out (fun e => e))
            have D5 := Lib.hid (t14.obj D5.out (fun e => e))
            have D12 := Lib.hid (t14.obj D12.out (fun e => e))
            have PT := Lib.hid (PT.out.pure t14)
            go_wp2_with (refine wpList_store_blk rfl 68 _ _ rfl g14 _ (lkC L1) _ rfl rfl c14 rfl infoLK (lkC_one _) ?_)
            intro w15 d15 t15 _
            have D12 := Lib.hid (t15.obj D12.out n1214); have D2 := Lib.hid (t15.obj D2.out n214); have D5 := Lib.hid (t15.obj D5.out n514); have PT := Lib.hid (PT.out.newer t15 lg14)
            clear c14 t14 d15 t15
            obtain ⟨rg, k5, k6⟩ := sg_left D12.out
            clear rg k5
            go_wp2
            exact ⟨⟨2, by omega, by first | rfl | trivial, by rw [HE.out], D2, D5, PT⟩, by simp [intOf]⟩
          · rw [HOT.out.2.2]
            obtain ⟨d1, d1n, hqi⟩ := HQM.out
            clear hj hn0
            obtain ⟨k0, k1, k2, k3, k4⟩ := HC.out _ _ D2.out
            have fz : wr.frozen? ⟨g2, 4, none⟩ = false := frozen_of_row _ g2 4 _ _ D2.out
            obtain ⟨d2, t2, _⟩ := setAt (i := 4) (v := .int .i64 ((q : Int) + 1)) D2.out (by rw [HCL.out]; omega)
            rw [HSET'.out] at d2
            have D5 := Lib.hid (t2.obj D5.out (Ne.symm N25.out)); have D2 := Lib.hid d2; have PT := Lib.hid (PT.out.newer t2 lg2)
            clear d2 t2
            go_wp2_with fail
            generalize wr.setCell ⟨g2, 4, none⟩ (.int .i64 ((q : Int) + 1)) = W4 at *
            clear k0 k1 k2 k3 k4 fz
            obtain ⟨k', hk'⟩ : ∃ k' : LKey, k' = { ots := ots, height := height, id := id, seed := seed, next := (q : Int) + 1 } := ⟨_, rfl⟩
            rw [← hk'] at D2
            have HKk := Lib.hid hk'
            clear hk'
            go_wp2_with fail
            refine wp_region_G (S := fun w' => Turn (fun k => k = g5) W4 w' ∧ Held [(g2, Obj.cells (lkC k').toArray 23 (0, 0))] w') (T := StoreAt 3 g5 (Obj.cells (lkC LKey0).toArray 23 (0, 0)) (Obj.cells (lkC k').toArray 23 (0, 0))) (by kernel_rfl) ⟨(Turn.refl _ _).drew, held_cons (show W4.drew.heap[_]? = _ from D2.out) (held_nil _)⟩ (show W4.drew.heap[g5]? = _ from D5.out) ?_
            have HG := Grow.store W4 [(g2, Obj.cells (lkC k').toArray 23 (0, 0))] 3 g5 (Obj.cells (lkC LKey0).toArray 23 (0, 0)) (Obj.cells (lkC k').toArray 23 (0, 0))
            refine anyG_take HG (i := 0) (v := ?_) rfl (by kernel_rfl) (by kernel_rfl) (by kernel_rfl) (fun _ _ _ h => h) (StoreAt.ins (by decide)) (Or.inl ⟨by rfl, fun w hSw => ?_⟩) ?_
            rotate_left
            · skip
              first | (go_simp; done) | (go_simp; with_reducible rfl)
            simp only [AP]
            refine anyG_take HG (i := 1) (v := Value.agg (lkC k').toArray) rfl (by kernel_rfl) (by kernel_rfl) (by kernel_rfl) (fun _ _ _ h => h) (StoreAt.ins (by decide)) (yieldsIf_load_mid (by rfl) 23 _ rfl g2 0 rfl (lkC k') _ (fun w hSw => range_of_row hSw.2.head) Try.underlying23 rfl infoHK) ?_
            simp only [AP]
            refine anyG_take HG (i := 2) (v := ?_) rfl (by kernel_rfl) (by kernel_rfl) (by kernel_rfl) (fun _ _ _ h => h) (StoreAt.ins (by decide)) (Or.inl ⟨by rfl, fun w hSw => ?_⟩) ?_
            rotate_left
            · skip
              first | (go_simp; done) | (go_simp; with_reducible rfl)
            simp only [AP]
            refine anyG_store (i := 3) (by kernel_rfl) rfl rfl rfl rfl rfl rfl infoHK (lkC_one _) (by intro p hp; rcases List.mem_singleton.1 hp with rfl; exact N25.out) ?_
            simp only [Act.put]
            refine anyG_take HG (i := 4) (v := ?_) rfl (by kernel_rfl) (by kernel_rfl) (by kernel_rfl) (fun _ _ _ h => h) (StoreAt.ins (by decide)) (Or.inl ⟨by rfl, fun w hSw => ?_⟩) ?_
            rotate_left
            · skip
              first | (go_simp; done) | (go_simp; with_reducible rfl)
            simp only [AP]
            refine anyG_done (by kernel_rfl) (fun w20 hS hT => ?_) _
            obtain ⟨hpS, hS⟩ := hS
            clear HG
            have PT := Lib.hid (PT.out.newer hpS lg5)
            have D5 := Lib.hid (show w20.heap[g5]? = _ from hT)
            clear hS hT hpS
            go_wp2
            exact bodyPost_ret (v := .tuple #[.string (bstr A3), .agg (lkC k').toArray, .int .i64 0]) (results_tct Try.results13 _ _ g5 _ _ _ _ rfl D5.out Try.underlying23 rfl infoHK) rfl ⟨by rw [HKk.out, HH3.out], PT.out⟩
    · rw [if_neg (fun h => hm h.2)] at hlv
      rw [hlv]
      have HM := Lib.hid hmay
      have d0 : decide ((65536 : Int) < n) = true := decide_eq_true (by omega)
      have d0n : decide (65536 < n) = true := decide_eq_true (by omega)
      clear hmay hB hlv hm hset hwh hup hlw
      go_enter Try.func13, Try.ntmps13
      go_wp2_with (refine wpList_boxV rfl 23 _ rfl C rfl ?_)
      intro g2 w1 e1 c1 t1 s1
      have lg2 : w.heap.size ≤ g2 := by omega
      clear e1 s1
      have D2 := Lib.hid c1; have PT := Lib.hid t1
      clear c1 t1
      go_wp2_with (refine wpList_allocZ rfl 23 rfl _ zeroHKs ?_)
      intro g5 w2 e2 c2 t2 s2
      have lg5 : w.heap.size ≤ g5 := by have := PT.out.size; omega
      have n25 : g2 ≠ g5 := by have := (Array.getElem?_eq_some_iff.1 D2.out).1; omega
      clear e2 s2
      have D5 := Lib.hid c2
      have D2 := Lib.hid (t2.obj D2.out (fun e => e))
      have PT := Lib.hid (PT.out.pure t2)
      clear c2 t2
      have R1 := range_of_row D2.out
      go_wp2_with (refine wpList_load_mid rfl 23 _ rfl g2 0 rfl C _ R1 Try.underlying23 rfl HCI.out ?_)
      clear R1
      refine (HM.out _).mono ?_
      rintro e w3 ⟨rfl, t3⟩
      have D2 := Lib.hid (t3.obj D2.out (fun e => e))
      have D5 := Lib.hid (t3.obj D5.out (fun e => e))
      have PT := Lib.hid (PT.out.pure t3)
      clear t3
      go_wp2_with (refine wpList_store_blk rfl 23 _ _ rfl g5 _ (lkC LKey0) _ rfl rfl D5.out rfl infoHK (lkC_one _) ?_)
      intro w9 d9 t9 _
      have D5 := Lib.hid d9; have PT := Lib.hid (PT.out.trans t9 fun q hq e => by omega : Pure w w9)
      clear d9 t9
      go_wp2
      exact bodyPost_ret (v := .tuple #[.string (bstr []), .agg (lkC LKey0).toArray, .int .i64 600]) (results_tct Try.results13 _ _ g5 _ _ _ _ rfl D5.out Try.underlying23 rfl infoHK) rfl ⟨rfl, PT.out⟩
  · rw [if_neg (fun h => hB h.1)] at hlv
    rw [hlv]
    have hB2 : hmayB k = false := by simpa using hB
    rw [hB2] at hmay
    have HM := Lib.hid hmay
    clear hmay hB hB2 hlv hset hwh hup hlw
    go_enter Try.func13, Try.ntmps13
    go_wp2_with (refine wpList_boxV rfl 23 _ rfl C rfl ?_)
    intro g2 w1 e1 c1 t1 s1
    have lg2 : w.heap.size ≤ g2 := by omega
    clear e1 s1
    have D2 := Lib.hid c1; have PT := Lib.hid t1
    clear c1 t1
    go_wp2_with (refine wpList_allocZ rfl 23 rfl _ zeroHKs ?_)
    intro g5 w2 e2 c2 t2 s2
    have lg5 : w.heap.size ≤ g5 := by have := PT.out.size; omega
    have n25 : g2 ≠ g5 := by have := (Array.getElem?_eq_some_iff.1 D2.out).1; omega
    clear e2 s2
    have D5 := Lib.hid c2
    have D2 := Lib.hid (t2.obj D2.out (fun e => e))
    have PT := Lib.hid (PT.out.pure t2)
    clear c2 t2
    have R1 := range_of_row D2.out
    go_wp2_with (refine wpList_load_mid rfl 23 _ rfl g2 0 rfl C _ R1 Try.underlying23 rfl HCI.out ?_)
    clear R1
    refine (HM.out _).mono ?_
    rintro e w3 ⟨rfl, t3⟩
    have D2 := Lib.hid (t3.obj D2.out (fun e => e))
    have D5 := Lib.hid (t3.obj D5.out (fun e => e))
    have PT := Lib.hid (PT.out.pure t3)
    clear t3
    go_wp2_with (refine wpList_store_blk rfl 23 _ _ rfl g5 _ (lkC LKey0) _ rfl rfl D5.out rfl infoHK (lkC_one _) ?_)
    intro w9 d9 t9 _
    have D5 := Lib.hid d9; have PT := Lib.hid (PT.out.trans t9 fun q hq e => by omega : Pure w w9)
    clear d9 t9
    go_wp2
    exact bodyPost_ret (v := .tuple #[.string (bstr []), .agg (lkC LKey0).toArray, .int .i64 600]) (results_tct Try.results13 _ _ g5 _ _ _ _ rfl D5.out Try.underlying23 rfl infoHK) rfl ⟨rfl, PT.out⟩
end Go.Proofs.Ytcfbmbhkdicpfaa
