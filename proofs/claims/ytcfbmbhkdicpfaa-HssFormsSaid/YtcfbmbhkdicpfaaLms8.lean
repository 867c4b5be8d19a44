/- Chapter 5: signatures. -/
import Derived.Test.YtcfbmbhkdicpfaaLms6
import Derived.Test.YtcfbmbhkdicpfaaLms7
namespace Go.Proofs.Ytcfbmbhkdicpfaa
open Go.RowKit

theorem may_sh2 (h : Nat) (hh : h = 1 ∨ h = 2 ∨ h = 3 ∨ h = 4 ∨ h = 5) : IntKind.i64.wrap ((2 : Int) ^ h) = (2 : Int) ^ h := by
  rcases hh with rfl | rfl | rfl | rfl | rfl <;> rfl
def LKey0 : LKey := ⟨0, 0, [], [], 0⟩
theorem zeroLK : (Try.prog.info? 68).bind (·.zero) = some (.agg (lkC LKey0).toArray) := by kernel_rfl
theorem zeroStr : (Try.prog.info? 9).bind (·.zero) = some (.string ⟨#[]⟩) := by kernel_rfl
theorem lkC_one (k : LKey) : ∀ v ∈ lkC k, v.oneCell' = true := by
  intro v hv
  simp only [lkC, List.mem_cons, List.mem_nil_iff, or_false] at hv
  rcases hv with rfl | rfl | rfl | rfl | rfl <;> rfl
def lsignV (k : LKey) (msg : List UInt8) : List UInt8 × LKey × Int :=
  if lmayB k = true ∧ msg.length ≤ 65536 then
    if k.next = ((2 ^ k.height.toNat : Nat) : Int) then ([], LKey0, 501)
    else (beB k.next.toNat 4 ++ (signV k.ots k.id k.next k.seed msg).1 ++ beB (typeV k.height).toNat 4 ++ sideV (nodeN k.id (pubF k) (2 ^ k.height.toNat)) (2 ^ k.height.toNat + k.next.toNat) k.height.toNat, { k with next := k.next + 1 }, 0)
  else ([], LKey0, 500)
theorem signV_length (k : Int) (id : List UInt8) (q : Int) (seed msg : List UInt8) : (signV k id q seed msg).1.length ≤ 2180 := by
  unfold signV
  split
  · rename_i h
    have hp := parV_le k
    simp only [otsSignV, List.length_append, beB_length]
    rw [chainsV_length _ _ _ _ _ fun i _ => startV_length _ _ _, show (otsCV (placeV id q.toNat) seed).length = 32 from shaV_length _]
    omega
  · simp

set_option maxRecDepth 100000 in
set_option maxHeartbeats 4000000 in
theorem LSign_any (w : World) (k : LKey) (msg : List UInt8) : Calls Try.prog 40 #[.agg (lkC k).toArray, .string (bstr msg)] w fun e w' =>
    e = .returned (.tuple #[.string (bstr (lsignV k msg).1), .agg (lkC (lsignV k msg).2.1).toArray, .int .i64 (lsignV k msg).2.2]) ∧ Pure w w' := by
  have hmay := fun W => LMay_any W k
  have htree := fun W (h : Nat) (hk : k.height = (h : Int)) (h1 : 1 ≤ h) (h5 : h ≤ 5) (hid : k.id.length = 16) => tree_any W k h hk h1 h5 hid
  have hlv : lsignV k msg = if lmayB k = true ∧ msg.length ≤ 65536 then
    if k.next = ((2 ^ k.height.toNat : Nat) : Int) then ([], LKey0, 501)
    else (beB k.next.toNat 4 ++ (signV k.ots k.id k.next k.seed msg).1 ++ beB (typeV k.height).toNat 4 ++ sideV (nodeN k.id (pubF k) (2 ^ k.height.toNat)) (2 ^ k.height.toNat + k.next.toNat) k.height.toNat, { k with next := k.next + 1 }, 0)
    else ([], LKey0, 500) := rfl
  have HC := Lib.hid (fun W g => @lk_cells k W g)
  have hCl : (lkC k).length = 5 := rfl
  have hset : ∀ v : Int, (lkC k).take 4 ++ [Value.int .i64 v] ++ (lkC k).drop 5 = lkC { k with next := v } := fun v => rfl
  obtain ⟨C, hC⟩ : ∃ C, C = lkC k := ⟨_, rfl⟩
  rw [← hC] at HC hmay hCl hset ⊢
  have htree' : ∀ W (h : Nat), k.height = (h : Int) → 1 ≤ h → h ≤ 5 → k.id.length = 16 → Calls Try.prog 78 #[.agg C.toArray] W fun e w' => ∃ r, e = .returned r ∧ TreeR W w' r (nodeN k.id (pubF k) (2 ^ h)) (2 * 2 ^ h) ∧ Pure W w' := by
    rw [hC]; exact htree
  have HSET := Lib.hid hset
  clear htree hset
  have HCI : Hid ((Try.prog.info? 68).map (·.size) = some C.length) := Lib.hid (by rw [hCl]; exact infoLK)
  have HCL := Lib.hid hCl
  clear hC hCl
  obtain ⟨n, hn⟩ : ∃ n, n = msg.length := ⟨_, rfl⟩
  have zm : (bstr msg).size = n := by rw [bstr_size, hn]
  rw [← hn] at hlv
  have HN := Lib.hid hn
  clear hn
  by_cases hB : lmayB k = true
  · rw [hB] at hmay
    by_cases hm : n ≤ 65536
    · rw [if_pos ⟨hB, hm⟩] at hlv
      obtain ⟨o, h, q, ho, ho2, hh, h1, h5, hid, hseed, hq, hqm⟩ := lmay_parts hB
      have hh5 : h = 1 ∨ h = 2 ∨ h = 3 ∨ h = 4 ∨ h = 5 := by omega
      have hsh1 := may_sh1 h hh5
      have hsh3 := may_sh3 h hh5
      have hp0 : ((2 ^ h : Nat) : Int) = (2 : Int) ^ h := by rw [Int.natCast_pow]; rfl
      rw [hh, hq, Int.toNat_natCast, Int.toNat_natCast] at hlv
      have hm32 : 2 ^ h ≤ 32 := by rcases hh5 with rfl | rfl | rfl | rfl | rfl <;> decide
      have hway := fun hlt => wayUp_of (q := q) h1 h5 hlt
      have htr := fun W => htree' W h hh h1 h5 hid
      obtain ⟨m, hmm⟩ : ∃ m, m = 2 ^ h := ⟨_, rfl⟩
      rw [← hmm] at hlv hm32 hp0 hqm hway htr
      have hsh2 : IntKind.i64.wrap ((2 : Int) ^ h) = (m : Int) := by rw [hp0]; exact may_sh2 h hh5
      replace hsh1 : wrap64 ((2 : Int) ^ h) = (m : Int) := by rw [hp0]; exact hsh1
      replace hsh3 : IntKind.i64.wrap ((2 : Int) ^ min h 64) = (m : Int) := by rw [hp0]; exact hsh3
      have HSH := Lib.hid (And.intro hsh1 (And.intro hsh2 hsh3))
      clear hmm hp0 hh5 htree' hsh1 hsh2 hsh3
      have d0 : decide ((65536 : Int) < n) = false := decide_eq_false (by omega)
      have d0n : decide (65536 < n) = false := decide_eq_false (by omega)
      have HM := Lib.hid hmay
      by_cases hlt : q = m
      · subst hlt
        rw [if_pos rfl] at hlv
        rw [hlv]
        have d1 : ((q : Int) == (q : Int)) = true := beq_self_eq_true _
        obtain ⟨ots, height, id, seed, next⟩ := k
        simp only at HC hh hq ho
        subst hh
        subst hq
        clear hmay hB hlv hway htr ho2 hid hseed hm HSET ho
        obtain ⟨hsh1, hsh2, hsh3⟩ := HSH.out
        refine calls_of_wp_marks Try.func40 rfl ?_
        simp only [Try.ntmps40, List.size_toArray, List.length_cons, List.length_nil, Nat.reduceAdd, Nat.reduceSub, Array.replicate_succ, Array.replicate_zero, List.push_toArray, List.append_toArray, List.nil_append, List.cons_append]
        go_wp2_with (refine wpList_boxV rfl 68 _ rfl C rfl ?_)
        intro g2 w1 e1 c1 t1 s1
        have l2 : w.heap.size ≤ g2 := by omega
        clear e1 s1
        have D2 := Lib.hid c1; have PT := Lib.hid t1
        clear c1 t1
        go_wp2_with (refine wpList_allocZ rfl 68 rfl _ zeroLK ?_)
        intro g5 w2 e2 c2 t2 s2
        have l5 : w.heap.size ≤ g5 := by have := PT.out.size; omega
        have n25 : g5 ≠ g2 := by have := (Array.getElem?_eq_some_iff.1 D2.out).1; omega
        clear e2 s2
        have D5 := Lib.hid c2; have D2 := Lib.hid (t2.obj D2.out (fun e => e)); have PT := Lib.hid (PT.out.pure t2)
        clear c2 t2
        have R1 := range_of_row D2.out
        go_wp2_with (refine wpList_load_mid rfl 68 _ rfl g2 0 rfl C _ R1 Try.underlying68 rfl HCI.out ?_)
        clear R1
        refine (HM.out _).mono ?_
        rintro e w3 ⟨rfl, t3⟩
        have D2 := Lib.hid (t3.obj D2.out (fun e => e)); have D5 := Lib.hid (t3.obj D5.out (fun e => e)); have PT := Lib.hid (PT.out.pure t3)
        clear t3
        go_wp2_with fail
        refine wp_region_G (S := fun w' => Pure w3 w' ∧ Held [(g2, Obj.cells C.toArray 68 (0, 0)), (g5, Obj.cells (lkC LKey0).toArray 68 (0, 0))] w') (T := fun _ _ _ => True) (by kernel_rfl) ⟨(Turn.refl _ _).drew, held_cons (show w3.drew.heap[_]? = _ from D2.out) (held_cons (show w3.drew.heap[_]? = _ from D5.out) (held_nil _))⟩ trivial ?_
        have HG := Grow.held w3 [(g2, Obj.cells C.toArray 68 (0, 0)), (g5, Obj.cells (lkC LKey0).toArray 68 (0, 0))]
        refine atN 0 ?_
        refine anyG_y HG (v := ?_) rfl (by kernel_rfl) (fun _ _ _ h => h) (fun _ _ _ => Iff.rfl) (Or.inl ⟨by rfl, fun w hSw => ?_⟩) ?_
        rotate_left
        · skip
          first | (go_simp; done) | (go_simp; with_reducible rfl)
        simp only [Nat.reduceAdd, AP]
        refine atN 1 ?_
        refine anyG_y HG (v := ?_) rfl (by kernel_rfl) (fun _ _ _ h => h) (fun _ _ _ => Iff.rfl) (Or.inl ⟨by rfl, fun w hSw => ?_⟩) ?_
        rotate_left
        · obtain ⟨s0, s1, s2, s3, s4⟩ := HC.out _ _ hSw.2.head
          first | (go_simp; done) | (go_simp; with_reducible rfl)
        simp only [Nat.reduceAdd, AP]
        refine atN 2 ?_
        refine anyG_y HG (v := ?_) rfl (by kernel_rfl) (fun _ _ _ h => h) (fun _ _ _ => Iff.rfl) (Or.inl ⟨by rfl, fun w hSw => ?_⟩) ?_
        rotate_left
        · skip
          first | (go_simp; done) | (go_simp; with_reducible rfl)
        simp only [Nat.reduceAdd, AP]
        refine atN 3 ?_
        refine anyG_y HG (v := ?_) rfl (by kernel_rfl) (fun _ _ _ h => h) (fun _ _ _ => Iff.rfl) (Or.inl ⟨by rfl, fun w hSw => ?_⟩) ?_
        rotate_left
        · obtain ⟨s0, s1, s2, s3, s4⟩ := HC.out _ _ hSw.2.head
          first | (go_simp; done) | (go_simp; with_reducible rfl)
        simp only [Nat.reduceAdd, AP]
        refine atN 4 ?_
        iterate 3
          refine anyG_y HG (v := ?_) rfl (by kernel_rfl) (fun _ _ _ h => h) (fun _ _ _ => Iff.rfl) (Or.inl ⟨by rfl, fun w hSw => ?_⟩) ?_
          rotate_left
          · skip
            first | (go_simp; done) | (go_simp; with_reducible rfl)
          simp only [Nat.reduceAdd, AP]
        refine anyG_done (by kernel_rfl) (fun w4 hS _ => ?_) _
        obtain ⟨hpS, hS⟩ := hS
        clear HG
        have PT := Lib.hid (PT.out.pure hpS)
        have D2 := Lib.hid hS.head
        have D5 := Lib.hid hS.tail.head
        clear hS hpS
        go_wp2_with (refine wpList_store_blk rfl 68 _ _ rfl g5 _ (lkC LKey0) _ rfl rfl D5.out rfl infoLK (lkC_one _) ?_)
        intro w9 d9 t9 _
        have D5 := Lib.hid d9; have PT := Lib.hid (PT.out.trans t9 fun q hq e => by omega : Pure w w9)
        clear d9 t9
        go_wp2
        refine marks_ret0 (v := .tuple #[.string (bstr []), .agg (lkC LKey0).toArray, .int .i64 501]) (results_tct Try.results40 _ _ g5 _ _ _ _ rfl D5.out Try.underlying68 rfl infoLK) ⟨rfl, PT.out⟩
      · have hlq : q < m := by omega
        have hqne : ¬ ((q : Int) = (m : Int)) := by omega
        rw [if_neg hqne] at hlv
        have hway := hway hlq
        clear hqne
        have hsg := fun W => Sign_all W k.ots k.id q k.seed msg (by omega)
        obtain ⟨t, htv, ht2⟩ := typeV_nat h h5
        have hty := fun W => Calls.pureEq (typeOf_any W (h : Int) (by omega) (by omega))
        rw [htv] at hty hlv
        rw [Int.toNat_natCast] at hlv
        have hn1 := fun W => lnum_any W q 4 (by omega) (by omega)
        have hn2 := fun W => lnum_any W t 4 (by omega) (by omega)
        have hb1 : (beB q 4).length = 4 := beB_length _ _
        have hb2 : (beB t 4).length = 4 := beB_length _ _
        have hsl := signV_length k.ots k.id q k.seed msg
        generalize beB q 4 = b1 at *
        generalize beB t 4 = b2 at *
        generalize (signV k.ots k.id q k.seed msg).1 = sg at *
        generalize (signV k.ots k.id q k.seed msg).2 = se at *
        have hNN : ∀ i, (nodeN k.id (pubF k) m i).length = 32 := fun i => nodeN_length _ _ _ _
        generalize nodeN k.id (pubF k) m = NN at *
        obtain ⟨M, hM⟩ : ∃ M, M = 2 * m := ⟨_, rfl⟩
        rw [← hM] at htr hway
        obtain ⟨r, hr⟩ : ∃ r, r = m + q := ⟨_, rfl⟩
        rw [← hr] at hlv hway
        obtain ⟨L1, hL1⟩ : ∃ L1, L1 = sg.length := ⟨_, rfl⟩
        rw [← hL1] at hsl
        obtain ⟨A1, hA1⟩ : ∃ A1, A1 = b1 ++ sg := ⟨_, rfl⟩
        have A1l : A1.length = 4 + L1 := by rw [hA1, List.length_append]; first | rfl | omega | (simp; omega) | simp
        have aA1 : bstr b1 ++ bstr sg = bstr A1 := by rw [hA1]; exact bstr_app b1 sg
        have zA1 : (bstr A1).size = 4 + L1 := by rw [bstr_size, A1l]
        have nA1 : ¬ (9223372036854775807 < 4 + L1) := by omega
        obtain ⟨A2, hA2⟩ : ∃ A2, A2 = A1 ++ b2 := ⟨_, rfl⟩
        have A2l : A2.length = (4 + L1) + 4 := by rw [hA2, List.length_append]; first | rfl | omega | (simp; omega) | simp
        have aA2 : bstr A1 ++ bstr b2 = bstr A2 := by rw [hA2]; exact bstr_app A1 b2
        have zA2 : (bstr A2).size = (4 + L1) + 4 := by rw [bstr_size, A2l]
        have nA2 : ¬ (9223372036854775807 < (4 + L1) + 4) := by omega
        rw [← hA1, ← hA2] at hlv
        have zs : (bstr sg).size = L1 := by rw [bstr_size, hL1]
        have z1 : (bstr b1).size = 4 := by rw [bstr_size, hb1]
        have z2 : (bstr b2).size = 4 := by rw [bstr_size, hb2]
        rw [hlv]
        have d1 : ((q : Int) == (m : Int)) = false := by simp; omega
        have d1n : (q == m) = false := by simp; omega
        have hri : IntKind.i64.wrap ((m : Int) + (q : Int)) = (r : Int) := by rw [IntWalk.i64_in _ (by omega)]; omega
        have HSG := Lib.hid hsg; have HTR := Lib.hid htr; have HTY := Lib.hid hty; have HN1 := Lib.hid hn1; have HN2 := Lib.hid hn2
        have HWAY := Lib.hid hway; have HNN := Lib.hid hNN
        have HMR := Lib.hid (And.intro hM hr)
        obtain ⟨X, hXl, HZ⟩ := ex28
        have HA2 := Lib.hid (And.intro hA1 A2l)
        have HL5 : Hid (h ≤ 5 ∧ L1 ≤ 2180 ∧ m ≤ 32) := Lib.hid ⟨h5, hsl, hm32⟩
        obtain ⟨ots, height, id, seed, next⟩ := k
        simp only at HC hh hq HSET HSG ho
        subst hh
        subst hq
        have HSET' := Lib.hid (HSET.out ((q : Int) + 1))
        have hqi : IntKind.i64.wrap ((q : Int) + 1) = (q : Int) + 1 := IntWalk.i64_in _ (by omega)
        clear hmay hB hlv hway htr ho2 hid hseed hm HSET hsg hty hn1 hn2 hNN htv hA1 hA2 hb1 hb2 A1l A2l hlt hL1 hsl hM hr h1 h5 hqm ho
        obtain ⟨hsh1, hsh2, hsh3⟩ := HSH.out
        refine calls_of_wp_marks Try.func40 rfl ?_
        simp only [Try.ntmps40, List.size_toArray, List.length_cons, List.length_nil, Nat.reduceAdd, Nat.reduceSub, Array.replicate_succ, Array.replicate_zero, List.push_toArray, List.append_toArray, List.nil_append, List.cons_append]
        go_wp2_with (refine wpList_boxV rfl 68 _ rfl C rfl ?_)
        intro g2 w1 e1 c1 t1 s1
        have l2 : w.heap.size ≤ g2 := by omega
        clear e1 s1
        have D2 := Lib.hid c1; have PT := Lib.hid t1
        clear c1 t1
        go_wp2_with (refine wpList_allocZ rfl 68 rfl _ zeroLK ?_)
        intro g5 w2 e2 c2 t2 s2
        have l5 : w.heap.size ≤ g5 := by have := PT.out.size; omega
        have n25 : g5 ≠ g2 := by have := (Array.getElem?_eq_some_iff.1 D2.out).1; omega
        clear e2 s2
        have D5 := Lib.hid c2; have D2 := Lib.hid (t2.obj D2.out (fun e => e)); have PT := Lib.hid (PT.out.pure t2)
        clear c2 t2
        have R1 := range_of_row D2.out
        go_wp2_with (refine wpList_load_mid rfl 68 _ rfl g2 0 rfl C _ R1 Try.underlying68 rfl HCI.out ?_)
        clear R1
        refine (HM.out _).mono ?_
        rintro e w3 ⟨rfl, t3⟩
        have D2 := Lib.hid (t3.obj D2.out (fun e => e)); have D5 := Lib.hid (t3.obj D5.out (fun e => e)); have PT := Lib.hid (PT.out.pure t3)
        clear t3
        go_wp2_with fail
        refine wp_region_G (S := fun w' => Pure w3 w' ∧ Held [(g2, Obj.cells C.toArray 68 (0, 0)), (g5, Obj.cells (lkC LKey0).toArray 68 (0, 0))] w') (T := fun _ _ _ => True) (by kernel_rfl) ⟨(Turn.refl _ _).drew, held_cons (show w3.drew.heap[_]? = _ from D2.out) (held_cons (show w3.drew.heap[_]? = _ from D5.out) (held_nil _))⟩ trivial ?_
        have HG := Grow.held w3 [(g2, Obj.cells C.toArray 68 (0, 0)), (g5, Obj.cells (lkC LKey0).toArray 68 (0, 0))]
        refine atN 0 ?_
        refine anyG_y HG (v := ?_) rfl (by kernel_rfl) (fun _ _ _ h => h) (fun _ _ _ => Iff.rfl) (Or.inl ⟨by rfl, fun w hSw => ?_⟩) ?_
        rotate_left
        · skip
          first | (go_simp; done) | (go_simp; with_reducible rfl)
        simp only [Nat.reduceAdd, AP]
        refine atN 1 ?_
        refine anyG_y HG (v := ?_) rfl (by kernel_rfl) (fun _ _ _ h => h) (fun _ _ _ => Iff.rfl) (Or.inl ⟨by rfl, fun w hSw => ?_⟩) ?_
        rotate_left
        · obtain ⟨s0, s1, s2, s3, s4⟩ := HC.out _ _ hSw.2.head
          first | (go_simp; done) | (go_simp; with_reducible rfl)
        simp only [Nat.reduceAdd, AP]
        refine atN 2 ?_
        refine anyG_y HG (v := ?_) rfl (by kernel_rfl) (fun _ _ _ h => h) (fun _ _ _ => Iff.rfl) (Or.inl ⟨by rfl, fun w hSw => ?_⟩) ?_
        rotate_left
        · skip
          first | (go_simp; done) | (go_simp; with_reducible rfl)
        simp only [Nat.reduceAdd, AP]
        refine atN 3 ?_
        refine anyG_y HG (v := ?_) rfl (by kernel_rfl) (fun _ _ _ h => h) (fun _ _ _ => Iff.rfl) (Or.inl ⟨by rfl, fun w hSw => ?_⟩) ?_
        rotate_left
        · obtain ⟨s0, s1, s2, s3, s4⟩ := HC.out _ _ hSw.2.head
          first | (go_simp; done) | (go_simp; with_reducible rfl)
        simp only [Nat.reduceAdd, AP]
        refine atN 4 ?_
        iterate 3
          refine anyG_y HG (v := ?_) rfl (by kernel_rfl) (fun _ _ _ h => h) (fun _ _ _ => Iff.rfl) (Or.inl ⟨by rfl, fun w hSw => ?_⟩) ?_
          rotate_left
          · skip
            first | (go_simp; done) | (go_simp; with_reducible rfl)
          simp only [Nat.reduceAdd, AP]
        refine anyG_done (by kernel_rfl) (fun w4 hS _ => ?_) _
        obtain ⟨hpS, hS⟩ := hS
        clear HG
        have PT := Lib.hid (PT.out.pure hpS)
        have D2 := Lib.hid hS.head
        have D5 := Lib.hid hS.tail.head
        clear hS hpS
        obtain ⟨k0, k1, k2, k3, k4⟩ := HC.out _ _ D2.out
        go_wp2_with fail
        refine (HSG.out _).mono ?_
        rintro e w5 ⟨rfl, t5⟩
        have D2 := Lib.hid (t5.obj D2.out (fun e => e)); have D5 := Lib.hid (t5.obj D5.out (fun e => e)); have PT := Lib.hid (PT.out.pure t5)
        have P5S : Hid (w.heap.size ≤ w5.heap.size) := Lib.hid PT.out.size
        have N5 : Hid (g2 < w5.heap.size ∧ g5 < w5.heap.size) := Lib.hid ⟨(Array.getElem?_eq_some_iff.1 D2.out).1, (Array.getElem?_eq_some_iff.1 D5.out).1⟩
        clear t5 k0 k1 k2 k3 k4
        go_wp2_with fail
        refine wp_region_G (S := fun w' => Pure w5 w' ∧ Held [(g2, Obj.cells C.toArray 68 (0, 0)), (g5, Obj.cells (lkC LKey0).toArray 68 (0, 0))] w') (T := NewAt 9 w5.heap.size (Obj.cells #[Value.string ⟨#[]⟩] 9 (0, 0))) (by kernel_rfl) ⟨(Turn.refl _ _).drew, held_cons (show w5.drew.heap[_]? = _ from D2.out) (held_cons (show w5.drew.heap[_]? = _ from D5.out) (held_nil _))⟩ (fun g h hB => nomatch h) ?_
        have HG := Grow.heldNew w5 [(g2, Obj.cells C.toArray 68 (0, 0)), (g5, Obj.cells (lkC LKey0).toArray 68 (0, 0))] 9 w5.heap.size (Obj.cells #[Value.string ⟨#[]⟩] 9 (0, 0))
        refine atN 0 ?_
        refine anyG_y HG (v := ?_) rfl (by kernel_rfl) (fun _ _ _ h => h) (NewAt.ins (by decide)) (Or.inl ⟨by rfl, fun w hSw => ?_⟩) ?_
        rotate_left
        · skip
          first | (go_simp; done) | (go_simp; with_reducible rfl)
        simp only [Nat.reduceAdd, AP]
        refine atN 1 ?_
        refine anyG_y HG (v := ?_) rfl (by kernel_rfl) (fun _ _ _ h => h) (NewAt.ins (by decide)) (Or.inl ⟨by rfl, fun w hSw => ?_⟩) ?_
        rotate_left
        · obtain ⟨s0, s1, s2, s3, s4⟩ := HC.out _ _ hSw.2.head
          first | (go_simp; done) | (go_simp; with_reducible rfl)
        simp only [Nat.reduceAdd, AP]
        refine anyG_take HG (i := 3) (v := ?_) rfl (by kernel_rfl) (by kernel_rfl) (by kernel_rfl) (fun _ _ _ h => h) (NewAt.ins (by decide)) (Or.inl ⟨by rfl, fun w hSw => ?_⟩) ?_
        rotate_left
        · skip
          first | (go_simp; done) | (go_simp; with_reducible rfl)
        simp only [AP]
        refine anyG_take HG (i := 5) (v := ?_) rfl (by kernel_rfl) (by kernel_rfl) (by kernel_rfl) (fun _ _ _ h => h) (NewAt.ins (by decide)) (Or.inl ⟨by rfl, fun w hSw => ?_⟩) ?_
        rotate_left
        · skip
          first | (go_simp; done) | (go_simp; with_reducible rfl)
        simp only [AP]
        refine anyG_take HG (i := 6) (v := ?_) rfl (by kernel_rfl) (by kernel_rfl) (by kernel_rfl) (fun _ _ _ h => h) (NewAt.ins (by decide)) (Or.inl ⟨by rfl, fun w hSw => ?_⟩) ?_
        rotate_left
        · skip
          obtain ⟨s0, s1, s2, s3, s4⟩ := HC.out _ _ hSw.2.head
          first | (go_simp; done) | (go_simp; with_reducible rfl)
        simp only [AP]
        refine anyG_call HG (i := 2) (fun w hSw => HN1.out w) rfl (by kernel_rfl) (by kernel_rfl) (by kernel_rfl) (fun _ _ _ h => h) (NewAt.ins (by decide)) (by rfl) (fun w hSw => by go_simp; first | done | with_reducible rfl) ?_
        simp only [AP]
        refine anyG_take HG (i := 4) (v := ?_) rfl (by kernel_rfl) (by kernel_rfl) (by kernel_rfl) (fun _ _ _ h => h) (NewAt.ins (by decide)) (Or.inl ⟨by rfl, fun w hSw => ?_⟩) ?_
        rotate_left
        · skip
          first | (go_simp; done) | (go_simp; with_reducible rfl)
        simp only [AP]
        refine anyG_call HG (i := 7) (fun w hSw => HTY.out w) rfl (by kernel_rfl) (by kernel_rfl) (by kernel_rfl) (fun _ _ _ h => h) (NewAt.ins (by decide)) (by rfl) (fun w hSw => by go_simp; first | done | with_reducible rfl) ?_
        simp only [AP]
        refine anyG_call HG (i := 8) (fun w hSw => HN2.out w) rfl (by kernel_rfl) (by kernel_rfl) (by kernel_rfl) (fun _ _ _ h => h) (NewAt.ins (by decide)) (by rfl) (fun w hSw => by go_simp; first | done | with_reducible rfl) ?_
        simp only [AP]
        refine anyG_take HG (i := 9) (v := ?_) rfl (by kernel_rfl) (by kernel_rfl) (by kernel_rfl) (fun _ _ _ h => h) (NewAt.ins (by decide)) (Or.inl ⟨by rfl, fun w hSw => ?_⟩) ?_
        rotate_left
        · skip
          first | (go_simp; done) | (go_simp; with_reducible rfl)
        simp only [AP]
        refine anyG_alloc HG (i := 10) (by kernel_rfl) rfl rfl rfl rfl zeroStr (fun w h => h.1.size) (by simp) (fun g9 lg9 => ?_)
        simp only [Act.put, List.setIfInBounds_toArray, List.set_cons_zero, List.set_cons_succ]
        refine anyG_tail [11] (k := 11) (by kernel_rfl) (fun w6 hS hT => ?_)
        simp only [List.filterMap_cons, List.filterMap_nil, List.getElem?_toArray, List.getElem?_cons_succ, List.getElem?_cons_zero]
        obtain ⟨hpS, hS⟩ := hS
        clear HG
        have PT := Lib.hid (PT.out.pure hpS)
        have D2 := Lib.hid hS.head
        have D5 := Lib.hid hS.tail.head
        clear hS hpS
        have D9 := Lib.hid (hT g9 rfl lg9)
        clear hT
        obtain ⟨c9, f9⟩ := cell_one D9.out
        obtain ⟨D9, t7, _⟩ := setOne (v := .string (bstr A2)) D9.out
        have D9 := Lib.hid D9
        have l9 : w.heap.size ≤ g9 := by have := PT.out.size; have := (Array.getElem?_eq_some_iff.1 D9.out).1; have h5 := l5; exact Nat.le_trans P5S.out lg9
        have n92 : g9 ≠ g2 := by have := N5.out.1; omega
        have n95 : g9 ≠ g5 := by have := N5.out.2; omega
        have D2 := Lib.hid (t7.obj D2.out (Ne.symm n92)); have D5 := Lib.hid (t7.obj D5.out (Ne.symm n95)); have PT := Lib.hid (PT.out.trans t7 fun q hq e => by omega : Pure w _)
        have NG2 : Hid (g2 < g9 ∧ g5 < g9) := Lib.hid (by have := N5.out; omega)
        clear t7 P5S N5 lg9
        go_wp2_with fail
        generalize w6.setCell ⟨g9, 0, none⟩ (.string (bstr A2)) = w7 at *
        clear c9 f9
        refine wp_region_held_drew (S := fun w' => w'.heap[g2]? = some (.cells C.toArray 68 (0, 0))) (by kernel_rfl) (show w7.drew.heap[g2]? = _ from D2.out) (fun hS => ?_)
        have HS := Lib.hid hS
        have PT := Lib.hid PT.out.drew; have D9 := Lib.hid (show w7.drew.heap[g9]? = _ from D9.out); have D5 := Lib.hid (show w7.drew.heap[g5]? = _ from D5.out)
        clear hS D2
        generalize w7.drew = w8 at *
        have G98 : Hid (g9 < w8.heap.size) := Lib.hid (Array.getElem?_eq_some_iff.1 D9.out).1
        refine wpAnyH_take (i := 0) (v := .agg C.toArray) rfl (by kernel_rfl) (by kernel_rfl) (by kernel_rfl) (fun _ _ _ h => h) (yieldsIf_load_mid (by rfl) 68 _ rfl g2 0 rfl C _ (fun w h => range_of_row h) Try.underlying68 rfl HCI.out) HS.out ?_
        simp only [AP]
        refine wpAnyH_take (i := 2) (v := ?_) rfl (by kernel_rfl) (by kernel_rfl) (by kernel_rfl) (fun _ _ _ h => h) (Or.inl ⟨by rfl, fun w hSw => ?_⟩) HS.out ?_
        rotate_left
        · obtain ⟨s0, s1, s2, s3, s4⟩ := HC.out _ _ hSw
          first | (go_simp; done) | (go_simp; with_reducible rfl)
        simp only [AP]
        refine wpAnyH_take (i := 3) (v := ?_) rfl (by kernel_rfl) (by kernel_rfl) (by kernel_rfl) (fun _ _ _ h => h) (Or.inl ⟨by rfl, fun w hSw => ?_⟩) HS.out ?_
        rotate_left
        · obtain ⟨s0, s1, s2, s3, s4⟩ := HC.out _ _ hSw
          first | (go_simp; done) | (go_simp; with_reducible rfl)
        simp only [AP]
        refine wpAnyH_take (i := 4) (v := ?_) rfl (by kernel_rfl) (by kernel_rfl) (by kernel_rfl) (fun _ _ _ h => h) (Or.inl ⟨by rfl, fun w hSw => ?_⟩) HS.out ?_
        rotate_left
        · obtain ⟨s0, s1, s2, s3, s4⟩ := HC.out _ _ hSw
          first | (go_simp; done) | (go_simp; with_reducible rfl)
        simp only [AP]
        refine wpAnyH_take (i := 5) (v := ?_) rfl (by kernel_rfl) (by kernel_rfl) (by kernel_rfl) (fun _ _ _ h => h) (Or.inl ⟨by rfl, fun w hSw => ?_⟩) HS.out ?_
        rotate_left
        · obtain ⟨s0, s1, s2, s3, s4⟩ := HC.out _ _ hSw
          first | (go_simp; done) | (go_simp; with_reducible rfl)
        simp only [AP]
        refine wpAnyH_take (i := 6) (v := ?_) rfl (by kernel_rfl) (by kernel_rfl) (by kernel_rfl) (fun _ _ _ h => h) (Or.inl ⟨by rfl, fun w hSw => ?_⟩) HS.out ?_
        rotate_left
        · obtain ⟨s0, s1, s2, s3, s4⟩ := HC.out _ _ hSw
          first | (go_simp; done) | (go_simp; with_reducible rfl)
        simp only [AP]
        refine wpAnyH_take (i := 7) (v := ?_) rfl (by kernel_rfl) (by kernel_rfl) (by kernel_rfl) (fun _ _ _ h => h) (Or.inl ⟨by rfl, fun w hSw => ?_⟩) HS.out ?_
        rotate_left
        · obtain ⟨s0, s1, s2, s3, s4⟩ := HC.out _ _ hSw
          first | (go_simp; done) | (go_simp; with_reducible rfl)
        simp only [AP]
        refine wpAnyH_step (i := 1) (by kernel_rfl) rfl fun K hK => ?_
        go_simp
        refine (HTR.out _).mono ?_
        rintro e w9 ⟨rr, rfl, ⟨g, L, rfl, d3, hL, hL2, hL3, l3⟩, t9⟩
        have HS := Lib.hid (t9.obj HS.out (fun e => e)); have D9 := Lib.hid (t9.obj D9.out (fun e => e)); have D5 := Lib.hid (t9.obj D5.out (fun e => e)); have PT := Lib.hid (PT.out.pure t9); have DG := Lib.hid d3
        have n99 : g9 ≠ g := by have := G98.out; omega
        clear t9 d3
        refine hK.out _ _ HS.out ?_
        clear hK K
        try simp only [AP]
        refine wpAnyH_step (i := 8) (by kernel_rfl) rfl fun K hK => ?_
        go_simp
        refine (beside_any w9 g r M L DG.out).mono ?_
        rintro e w10 ⟨gr, gn, rfl, hb, n1, ln, lr, ln2, lr2, t10⟩
        have HS := Lib.hid (t10.obj HS.out (fun e => e)); have D9 := Lib.hid (t10.obj D9.out (fun e => e)); have D5 := Lib.hid (t10.obj D5.out (fun e => e)); have PT := Lib.hid (PT.out.pure t10); have HB := Lib.hid hb
        have q8 : g < w9.heap.size := (Array.getElem?_eq_some_iff.1 DG.out).1
        have nr9 : g9 < gr := by have := G98.out; omega
        have G98b : Hid (g9 < gn) := Lib.hid (by have := G98.out; omega)
        have G9S := Lib.hid (Array.getElem?_eq_some_iff.1 D9.out).1; have G5S := Lib.hid (Array.getElem?_eq_some_iff.1 D5.out).1; have G2S := Lib.hid (Array.getElem?_eq_some_iff.1 HS.out).1
        clear t10 hb DG G98
        refine hK.out _ _ HS.out ?_
        clear hK K
        try simp only [AP]
        refine wpAnyH_done (by kernel_rfl) ?_ _
        simp only [Exit.then]
        go_step
        refine wp_block ?_
        have B10 : w.heap.size ≤ w10.heap.size := PT.out.size
        have ngr2 : g2 ≠ gr := by have := NG2.out.1; omega
        have ngr5 : g5 ≠ gr := by have := NG2.out.2; omega
        refine wp_rangeFuncT (gf := 133) (lb := #[.pointer (some ⟨gr, 0, none⟩), .pointer (some ⟨gn, 0, none⟩)]) rfl enters_beside (fun j => #[hv (NN ((r / 2 ^ j) ^^^ 1))]) (fun _ => rfl) h (fun k => k = g9) (fun k => k = gr) (fun k e => by subst e; exact G9S.out) (fun k e => by subst e; exact lr2)
          (fun j W => Hid (Pure w W) ∧ Hid (W.heap[g9]? = some (.cells #[.string (bstr (A2 ++ sideV NN r j))] 9 (0, 0))) ∧ Hid (W.heap[g2]? = some (.cells C.toArray 68 (0, 0))) ∧ Hid (W.heap[g5]? = some (.cells (lkC LKey0).toArray 68 (0, 0)))) ?_ ?_ ?_ ?_ ?_
        · rintro j W W' ⟨h1, h2, h3, h4⟩ ht
          exact ⟨Lib.hid (h1.out.trans ht fun q hq e => by rcases e with e | e <;> omega), Lib.hid (ht.obj h2.out (fun e => by have := G9S.out; rcases e with e | e <;> omega)), Lib.hid (ht.obj h3.out (fun e => by have := G2S.out; rcases e with e | e <;> omega)), Lib.hid (ht.obj h4.out (fun e => by have := G5S.out; rcases e with e | e <;> omega))⟩
        · intro l J W1 hl hP1 stab hround hJ0
          exact beside_it l w10.heap.size HWAY.out hL hL2 hL3 HNN.out (fun k => k = g9) ⟨fun e => by omega, lr2⟩ ⟨fun e => by have := G98b.out; omega, ln2⟩ ⟨fun e => n99 e.symm, by omega⟩ n1 (by omega) J W1 ⟨hP1.obj HB.out.1 (fun e => e), hP1.obj HB.out.2.1 (fun e => e), hP1.obj HB.out.2.2 (fun e => e)⟩ stab (fun j W hj hJ => hround j W hj hJ) hJ0
        · exact ⟨PT, by rw [sideV, List.append_nil]; exact D9, HS, D5⟩
        · intro l j W hl hl2 hj hI
          obtain ⟨h1, h2, h3, h4⟩ := hI
          simp only [zip_one, List.setIfInBounds_toArray, List.set_cons_succ, List.set_cons_zero]
          obtain ⟨x, hx⟩ : ∃ x, x = NN ((r / 2 ^ j) ^^^ 1) := ⟨_, rfl⟩
          have hxl : x.length = 32 := by rw [hx]; exact HNN.out _
          have hsx : A2 ++ sideV NN r (j + 1) = (A2 ++ sideV NN r j) ++ x := by rw [sideV, List.append_assoc, hx]
          have hBl0 : (A2 ++ sideV NN r j).length ≤ 3000 := by rw [List.length_append, HA2.out.2, sideV_length HNN.out]; have := HL5.out; omega
          rw [← hx]
          obtain ⟨Bt, hBt⟩ : ∃ Bt, Bt = A2 ++ sideV NN r j := ⟨_, rfl⟩
          rw [← hBt] at h2 hsx hBl0
          obtain ⟨lB, hlB⟩ : ∃ lB, lB = Bt.length := ⟨_, rfl⟩
          rw [← hlB] at hBl0
          obtain ⟨A5, hA5⟩ : ∃ A5, A5 = Bt ++ x := ⟨_, rfl⟩
          have A5l : A5.length = lB + 32 := by rw [hA5, List.length_append]; first | rfl | omega | (simp; omega) | simp
          have aA5 : bstr Bt ++ bstr x = bstr A5 := by rw [hA5]; exact bstr_app Bt x
          have zA5 : (bstr A5).size = lB + 32 := by rw [bstr_size, A5l]
          have nA5 : ¬ (9223372036854775807 < lB + 32) := by omega
          have zB : (bstr Bt).size = lB := by rw [bstr_size, hlB]
          have zx : (bstr x).size = 32 := by rw [bstr_size, hxl]
          rw [← hA5] at hsx
          have HSX := Lib.hid hsx
          clear hx hsx hBt hlB hA5 A5l
          have lt9 := G9S.out
          have lt2 := G2S.out
          have lt5 := G5S.out
          refine wpIn_region_round (Or.inr ⟨l, rfl⟩) rfl ?_
          go_wp2_with (refine wpList_allocZ rfl 62 rfl X HZ.out ?_)
          intro g10 v1 e1 c1 t1 s1
          have l10 : W.heap.size ≤ g10 := by omega
          clear e1 s1
          go_wp2_with (refine wpList_store_blk rfl 62 _ _ rfl g10 _ (u8s x) _ rfl rfl c1 (size28 hXl hxl) (info28_l hxl) (u8s_one _) ?_)
          intro v2 c2 t2 _
          have hp : Pure W v2 := t1.trans t2 fun q hq e => by omega
          refine wpList_nil ?_
          refine ⟨hp.mono fun _ _ e => e.elim, fun W2 ht2 => ?_⟩
          have E9 := Lib.hid (ht2.obj (hp.obj h2.out (fun e => e)) (show ¬ (g9 = l) by omega))
          have E2 := Lib.hid (ht2.obj (hp.obj h3.out (fun e => e)) (show ¬ (g2 = l) by omega))
          have E5 := Lib.hid (ht2.obj (hp.obj h4.out (fun e => e)) (show ¬ (g5 = l) by omega))
          have E10 := Lib.hid (ht2.obj c2 (show ¬ (g10 = l) by omega))
          have EP : Hid (Pure w W2) := Lib.hid ((h1.out.pure hp).trans ht2 fun q hq e => by omega)
          clear h1 h2 h3 h4 c1 t1 c2 t2 hp ht2
          refine wpIn_block ?_
          refine wpIn_region_roundG (Or.inr ⟨l, rfl⟩) (fun w' => Pure W2 w' ∧ Held [(g9, .cells #[.string (bstr Bt)] 9 (0, 0)), (g10, .cells (u8s x).toArray 62 (0, 0)), (g2, .cells C.toArray 68 (0, 0)), (g5, .cells (lkC LKey0).toArray 68 (0, 0))] w') (fun _ _ _ => True) (by kernel_rfl) rfl ⟨(Turn.refl _ _).drew, held_cons E9.out (held_cons E10.out (held_cons E2.out (held_cons E5.out (held_nil _))))⟩ trivial ?_
          have HG := Grow.held W2 [(g9, .cells #[.string (bstr Bt)] 9 (0, 0)), (g10, .cells (u8s x).toArray 62 (0, 0)), (g2, .cells C.toArray 68 (0, 0)), (g5, .cells (lkC LKey0).toArray 68 (0, 0))]
          refine anyG_take HG (i := 0) (v := ?_) rfl (by kernel_rfl) (by kernel_rfl) (by kernel_rfl) (fun _ _ _ h => h) (fun _ _ _ => Iff.rfl) (Or.inl ⟨by rfl, fun w hSw => ?_⟩) ?_
          rotate_left
          · skip
            obtain ⟨c9, f9⟩ := cell_one hSw.2.head
            first | (go_simp; done) | (go_simp; with_reducible rfl)
          simp only [AP]
          refine anyG_take HG (i := 1) (v := ?_) rfl (by kernel_rfl) (by kernel_rfl) (by kernel_rfl) (fun _ _ _ h => h) (fun _ _ _ => Iff.rfl) (Or.inl ⟨by rfl, fun w hSw => ?_⟩) ?_
          rotate_left
          · skip
            first | (go_simp; done) | (go_simp; with_reducible rfl)
          simp only [AP]
          refine anyG_take HG (i := 2) (v := ?_) rfl (by kernel_rfl) (by kernel_rfl) (by kernel_rfl) (fun _ _ _ h => h) (fun _ _ _ => Iff.rfl) (Or.inl ⟨by rfl, fun w hSw => ?_⟩) ?_
          rotate_left
          · skip
            have hcv := conv_block (P := Try.prog) w 65 5 9 62 (0, 0) Try.underlying65 Try.underlying5 Try.underlying9 g10 32 x 32 hxl hSw.2.tail.head
            first | (go_simp; done) | (go_simp; with_reducible rfl)
          simp only [AP]
          refine anyG_take HG (i := 3) (v := ?_) rfl (by kernel_rfl) (by kernel_rfl) (by kernel_rfl) (fun _ _ _ h => h) (fun _ _ _ => Iff.rfl) (Or.inl ⟨by rfl, fun w hSw => ?_⟩) ?_
          rotate_left
          · skip
            first | (go_simp; done) | (go_simp; with_reducible rfl)
          simp only [AP]
          refine anyG_tail [4] (k := 4) (by kernel_rfl) (fun w11 hS _ => ?_)
          simp only [List.filterMap_cons, List.filterMap_nil, List.getElem?_toArray, List.getElem?_cons_succ, List.getElem?_cons_zero]
          obtain ⟨hpS, hS⟩ := hS
          clear HG
          have E9 := Lib.hid hS.head; have E2 := Lib.hid hS.tail.tail.head; have E5 := Lib.hid hS.tail.tail.tail.head
          clear hS
          obtain ⟨c9, f9⟩ := cell_one E9.out
          obtain ⟨F9, t7, _⟩ := setOne (v := .string (bstr A5)) E9.out
          go_wp2
          refine ⟨rfl, ?_, Lib.hid ((EP.out.pure hpS).trans t7 fun q hq e => by omega), Lib.hid (by rw [HSX.out]; exact F9), Lib.hid (t7.obj E2.out (Ne.symm n92)), Lib.hid (t7.obj E5.out (Ne.symm n95))⟩
          exact (hpS.mono fun _ _ e => e.elim).trans t7 fun q hq e => e
        · intro D W hD hI hDD
          obtain ⟨h1, h2, h3, h4⟩ := hI
          have lt9 := G9S.out
          have lt2 := G2S.out
          have lt5 := G5S.out
          simp only [Exit.inBlock, Exit.then]
          go_step
          obtain ⟨k0, k1, k2, k3, k4⟩ := HC.out _ _ h3.out
          have fz : W.frozen? ⟨g2, 4, none⟩ = false := frozen_of_row W g2 4 _ _ h3.out
          obtain ⟨d2, t2, _⟩ := setAt (i := 4) (v := .int .i64 ((q : Int) + 1)) h3.out (by rw [HCL.out]; omega)
          rw [HSET'.out] at d2
          have E2 := Lib.hid d2; have E9 := Lib.hid (t2.obj h2.out n92); have E5 := Lib.hid (t2.obj h4.out n25)
          have ED := Lib.hid (t2.obj hDD (show ¬ (D = g2) by omega))
          have EP := Lib.hid (h1.out.trans t2 fun q hq e => by omega : Pure w _)
          clear h1 h2 h3 h4 d2 t2 hDD
          go_wp2_with fail
          generalize W.setCell ⟨g2, 4, none⟩ (.int .i64 ((q : Int) + 1)) = W4 at *
          clear k0 k1 k2 k3 k4 fz
          obtain ⟨k', hk'⟩ : ∃ k' : LKey, k' = { ots := ots, height := (h : Int), id := id, seed := seed, next := (q : Int) + 1 } := ⟨_, rfl⟩
          rw [← hk'] at E2
          have HKk := Lib.hid hk'
          clear hk' HSET'
          obtain ⟨St, hSt⟩ : ∃ St, St = A2 ++ sideV NN r h := ⟨_, rfl⟩
          rw [← hSt] at E9
          have HSt := Lib.hid hSt
          clear hSt
          refine wp_region_G (S := fun w' => Pure W4 w' ∧ Held [(g9, .cells #[.string (bstr St)] 9 (0, 0)), (g2, .cells (lkC k').toArray 68 (0, 0)), (g5, .cells (lkC LKey0).toArray 68 (0, 0)), (D, .deferred (some []))] w') (T := fun _ _ _ => True) (by kernel_rfl) ⟨(Turn.refl _ _).drew, held_cons E9.out (held_cons E2.out (held_cons E5.out (held_cons ED.out (held_nil _))))⟩ trivial ?_
          have HG := Grow.held W4 [(g9, .cells #[.string (bstr St)] 9 (0, 0)), (g2, .cells (lkC k').toArray 68 (0, 0)), (g5, .cells (lkC LKey0).toArray 68 (0, 0)), (D, .deferred (some []))]
          refine atN 0 ?_
          refine anyG_y HG (v := ?_) rfl (by kernel_rfl) (fun _ _ _ h => h) (fun _ _ _ => Iff.rfl) (Or.inl ⟨by rfl, fun w hSw => ?_⟩) ?_
          rotate_left
          · obtain ⟨c9, f9⟩ := cell_one hSw.2.head
            first | (go_simp; done) | (go_simp; with_reducible rfl)
          simp only [Nat.reduceAdd, AP]
          refine anyG_take HG (i := 1) (v := Value.agg (lkC k').toArray) rfl (by kernel_rfl) (by kernel_rfl) (by kernel_rfl) (fun _ _ _ h => h) (fun _ _ _ => Iff.rfl) (yieldsIf_load_mid (by rfl) 68 _ rfl g2 0 rfl (lkC k') _ (fun w hSw => range_of_row hSw.2.tail.head) Try.underlying68 rfl infoLK) ?_
          simp only [AP]
          refine atN 2 ?_
          refine anyG_y HG (v := ?_) rfl (by kernel_rfl) (fun _ _ _ h => h) (fun _ _ _ => Iff.rfl) (Or.inl ⟨by rfl, fun w hSw => ?_⟩) ?_
          rotate_left
          · skip
            first | (go_simp; done) | (go_simp; with_reducible rfl)
          simp only [Nat.reduceAdd, AP]
          refine anyG_tail [3, 4] (k := 3) (by kernel_rfl) (fun w11 hS _ => ?_)
          simp only [List.filterMap_cons, List.filterMap_nil, List.getElem?_toArray, List.getElem?_cons_succ, List.getElem?_cons_zero]
          obtain ⟨hpS, hS⟩ := hS
          have F5 := Lib.hid hS.tail.tail.head; have FD := Lib.hid hS.tail.tail.tail.head
          have FP := Lib.hid (EP.out.pure hpS)
          clear HG hS hpS
          refine wpList_store_blk rfl 68 _ _ rfl g5 _ (lkC k') _ rfl rfl F5.out rfl infoLK (lkC_one _) ?_
          intro w9 d9 t9 _
          have G5 := Lib.hid d9; have GD := t9.obj FD.out (show ¬ (D = g5) by omega)
          have GP := Lib.hid (FP.out.trans t9 fun q hq e => by omega : Pure w w9)
          clear d9 t9
          go_wp2
          have pt := putObj_turn w9 D (.deferred none)
          refine marks_ret (v := .tuple #[.string (bstr St), .agg (lkC k').toArray, .int .i64 0]) GD (results_tct Try.results40 _ _ g5 _ _ _ _ rfl (pt.obj G5.out (show ¬ (g5 = D) by omega)) Try.underlying68 rfl infoLK) ⟨by rw [HSt.out, HKk.out], GP.out.trans pt fun q hq e => by omega⟩
    · rw [if_neg (fun h => hm h.2)] at hlv
      rw [hlv]
      have HM := Lib.hid hmay
      have HSH : Hid (True ∧ True ∧ True) := Lib.hid ⟨trivial, trivial, trivial⟩
      have d0 : decide ((65536 : Int) < n) = true := decide_eq_true (by omega)
      have d0n : decide (65536 < n) = true := decide_eq_true (by omega)
      clear hmay hB hlv hm HSET htree'
      obtain ⟨hsh1, hsh2, hsh3⟩ := HSH.out
      refine calls_of_wp_marks Try.func40 rfl ?_
      simp only [Try.ntmps40, List.size_toArray, List.length_cons, List.length_nil, Nat.reduceAdd, Nat.reduceSub, Array.replicate_succ, Array.replicate_zero, List.push_toArray, List.append_toArray, List.nil_append, List.cons_append]
      go_wp2_with (refine wpList_boxV rfl 68 _ rfl C rfl ?_)
      intro g2 w1 e1 c1 t1 s1
      have l2 : w.heap.size ≤ g2 := by omega
      clear e1 s1
      have D2 := Lib.hid c1; have PT := Lib.hid t1
      clear c1 t1
      go_wp2_with (refine wpList_allocZ rfl 68 rfl _ zeroLK ?_)
      intro g5 w2 e2 c2 t2 s2
      have l5 : w.heap.size ≤ g5 := by have := PT.out.size; omega
      have n25 : g5 ≠ g2 := by have := (Array.getElem?_eq_some_iff.1 D2.out).1; omega
      clear e2 s2
      have D5 := Lib.hid c2; have D2 := Lib.hid (t2.obj D2.out (fun e => e)); have PT := Lib.hid (PT.out.pure t2)
      clear c2 t2
      have R1 := range_of_row D2.out
      go_wp2_with (refine wpList_load_mid rfl 68 _ rfl g2 0 rfl C _ R1 Try.underlying68 rfl HCI.out ?_)
      clear R1
      refine (HM.out _).mono ?_
      rintro e w3 ⟨rfl, t3⟩
      have D2 := Lib.hid (t3.obj D2.out (fun e => e)); have D5 := Lib.hid (t3.obj D5.out (fun e => e)); have PT := Lib.hid (PT.out.pure t3)
      clear t3
      go_wp2_with (refine wpList_store_blk rfl 68 _ _ rfl g5 _ (lkC LKey0) _ rfl rfl D5.out rfl infoLK (lkC_one _) ?_)
      intro w9 d9 t9 _
      have D5 := Lib.hid d9; have PT := Lib.hid (PT.out.trans t9 fun q hq e => by omega : Pure w w9)
      clear d9 t9
      go_wp2
      refine marks_ret0 (v := .tuple #[.string (bstr []), .agg (lkC LKey0).toArray, .int .i64 500]) (results_tct Try.results40 _ _ g5 _ _ _ _ rfl D5.out Try.underlying68 rfl infoLK) ⟨rfl, PT.out⟩
  · rw [if_neg (fun h => hB h.1)] at hlv
    rw [hlv]
    have hB2 : lmayB k = false := by simpa using hB
    rw [hB2] at hmay
    have HM := Lib.hid hmay
    have HSH : Hid (True ∧ True ∧ True) := Lib.hid ⟨trivial, trivial, trivial⟩
    clear hmay hB hB2 hlv HSET htree'
    obtain ⟨hsh1, hsh2, hsh3⟩ := HSH.out
    refine calls_of_wp_marks Try.func40 rfl ?_
    simp only [Try.ntmps40, List.size_toArray, List.length_cons, List.length_nil, Nat.reduceAdd, Nat.reduceSub, Array.replicate_succ, Array.replicate_zero, List.push_toArray, List.append_toArray, List.nil_append, List.cons_append]
    go_wp2_with (refine wpList_boxV rfl 68 _ rfl C rfl ?_)
    intro g2 w1 e1 c1 t1 s1
    have l2 : w.heap.size ≤ g2 := by omega
    clear e1 s1
    have D2 := Lib.hid c1; have PT := Lib.hid t1
    clear c1 t1
    go_wp2_with (refine wpList_allocZ rfl 68 rfl _ zeroLK ?_)
    intro g5 w2 e2 c2 t2 s2
    have l5 : w.heap.size ≤ g5 := by have := PT.out.size; omega
    have n25 : g5 ≠ g2 := by have := (Array.getElem?_eq_some_iff.1 D2.out).1; omega
    clear e2 s2
    have D5 := Lib.hid c2; have D2 := Lib.hid (t2.obj D2.out (fun e => e)); have PT := Lib.hid (PT.out.pure t2)
    clear c2 t2
    have R1 := range_of_row D2.out
    go_wp2_with (refine wpList_load_mid rfl 68 _ rfl g2 0 rfl C _ R1 Try.underlying68 rfl HCI.out ?_)
    clear R1
    refine (HM.out _).mono ?_
    rintro e w3 ⟨rfl, t3⟩
    have D2 := Lib.hid (t3.obj D2.out (fun e => e)); have D5 := Lib.hid (t3.obj D5.out (fun e => e)); have PT := Lib.hid (PT.out.pure t3)
    clear t3
    go_wp2_with (refine wpList_store_blk rfl 68 _ _ rfl g5 _ (lkC LKey0) _ rfl rfl D5.out rfl infoLK (lkC_one _) ?_)
    intro w9 d9 t9 _
    have D5 := Lib.hid d9; have PT := Lib.hid (PT.out.trans t9 fun q hq e => by omega : Pure w w9)
    clear d9 t9
    go_wp2
    refine marks_ret0 (v := .tuple #[.string (bstr []), .agg (lkC LKey0).toArray, .int .i64 500]) (results_tct Try.results40 _ _ g5 _ _ _ _ rfl D5.out Try.underlying68 rfl infoLK) ⟨rfl, PT.out⟩
end Go.Proofs.Ytcfbmbhkdicpfaa
