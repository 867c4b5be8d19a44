/- Chapter 5, the reference: nodes, public keys. Chapter 5, the reference: public keys, signatures. -/
import Derived.Test.YtcfbmbhkdicpfaaRowN
import Derived.Test.YtcfbmbhkdicpfaaLms8
namespace Go.Proofs.Ytcfbmbhkdicpfaa
open Go.RowKit

theorem infoStr : (Try.prog.info? 9).map (fun i => (i.zero, i.size, i.bytes)) = some (some (.string ⟨#[]⟩), 1, 16) := by kernel_rfl
theorem made_S (n : Nat) : madeCells #[Value.string ⟨#[]⟩] n = (strsV (List.replicate n [])).toArray := by
  apply Array.toList_inj.1
  simp only [madeCells, strsV, Array.toList_map, List.map_replicate]
  apply List.ext_getElem
  · simp
  · intro i h1 h2
    simp [Nat.mod_one, bstr]
theorem make_S (w : World) (n : Nat) (hn : n ≤ 1000) : (Instr.makeSlice 47 (.int .i64 (n : Int)) (.int .i64 (n : Int))).run Try.prog w = .ok (.slice (some ⟨w.heap.size, 0, none⟩) n n) (w.alloc (.cells (strsV (List.replicate n [])).toArray 9)) := by
  obtain ⟨i, hi, h1, h2, h3⟩ := info_parts infoStr
  have := run_make (P := Try.prog) w 47 9 i (.string ⟨#[]⟩) Try.underlying47 hi h1 .i64 .i64 n n (by omega) (by omega) (by rw [h3]; omega) (by omega)
  rw [this, h2]
  simp [Value.cells, made_S]
/-- All nodes, as texts. -/
def TreeS (w w' : World) (r : Value) (N : Nat → List UInt8) (M : Nat) : Prop := ∃ g L, r = .slice (some ⟨g, 0, none⟩) M M ∧ w'.heap[g]? = some (.cells (strsV L).toArray 9 (0, 0)) ∧ L.length = M ∧ (∀ i, 0 < i → i < M → L[i]? = some (N i)) ∧ w.heap.size ≤ g
theorem lay_text {L : List (List UInt8)} {M r : Nat} {N : Nat → List UInt8} (hL : L.length = M) (hJ : ∀ j, r < j → j < M → L[j]? = some (N j)) (hr : r < M) (h0 : 0 < r) :
    (L.set r (N r)).length = M ∧ ∀ j, r - 1 < j → j < M → (L.set r (N r))[j]? = some (N j) := by
  refine ⟨by rw [List.length_set]; exact hL, fun j h1 h2 => ?_⟩
  by_cases hj : j = r
  · subst hj
    rw [List.getElem?_set_self (by omega)]
  · rw [List.getElem?_set_ne (by omega)]
    exact hJ j (by omega) h2

set_option maxRecDepth 100000 in
set_option maxHeartbeats 4000000 in
theorem nodesR_any (w : World) (k : LKey) (h : Nat) (hk : k.height = (h : Int)) (h1 : 1 ≤ h) (h5 : h ≤ 5) (hid : k.id.length = 16) : Calls Try.prog 84 #[.agg (lkC k).toArray] w fun e w' =>
    ∃ r, e = .returned r ∧ TreeS w w' r (nodeN k.id (pubF k) (2 ^ h)) (2 * 2 ^ h) ∧ Pure w w' := by
  obtain ⟨X, hXl, HZ⟩ := ex28
  have HC := Lib.hid (fun W g => @lk_cells k W g)
  obtain ⟨C, hC⟩ : ∃ C, C = lkC k := ⟨_, rfl⟩
  rw [← hC] at HC ⊢
  clear hC
  have hh5 : h = 1 ∨ h = 2 ∨ h = 3 ∨ h = 4 ∨ h = 5 := by omega
  have hsh1 := may_sh1 h hh5
  have hsh2 := may_sh2 h hh5
  have hsh3 := may_sh3 h hh5
  have hm32 : 2 ^ h ≤ 32 := by rcases hh5 with rfl | rfl | rfl | rfl | rfl <;> decide
  have hm2 : 2 ≤ 2 ^ h := by rcases hh5 with rfl | rfl | rfl | rfl | rfl <;> decide
  have hp0 : ((2 ^ h : Nat) : Int) = (2 : Int) ^ h := by rw [Int.natCast_pow]; rfl
  obtain ⟨m, hm⟩ : ∃ m, m = 2 ^ h := ⟨_, rfl⟩
  rw [← hm] at hm32 hm2 hp0 ⊢
  replace hsh1 : wrap64 ((2 : Int) ^ h) = (m : Int) := by rw [hp0]; exact hsh1
  replace hsh2 : IntKind.i64.wrap ((2 : Int) ^ h) = (m : Int) := by rw [hp0]; exact hsh2
  replace hsh3 : IntKind.i64.wrap ((2 : Int) ^ min h 64) = (m : Int) := by rw [hp0]; exact hsh3
  have HSH := Lib.hid (And.intro hsh1 (And.intro hsh2 hsh3))
  clear hsh1 hsh2 hsh3 hh5 hp0 hm
  obtain ⟨M, hM⟩ : ∃ M, M = 2 * m := ⟨_, rfl⟩
  rw [← hM]
  have hpub : ∀ W (q : Nat), Calls Try.prog 126 #[.int .i64 k.ots, .string (bstr k.id), .int .i64 (q : Int), .string (bstr k.seed)] W fun e w' => e = .returned (.tuple #[hv (pubF k q), .int .i64 (pubV k.ots k.id (q : Int) k.seed).2]) ∧ Pure W w' := fun W q => RPublic_all W k.ots k.id (q : Int) k.seed
  have hpl : ∀ q, (pubF k q).length = 32 := fun q => pubV_length _ _ _ _
  have hnl : ∀ r, m ≤ r → nodeN k.id (pubF k) m r = tipV k.id r (pubF k (r - m)) := fun r h => nodeN_leaf h
  have hni : ∀ r, 1 ≤ r → r < m → nodeN k.id (pubF k) m r = nodV k.id r (nodeN k.id (pubF k) m (2 * r)) (nodeN k.id (pubF k) m (2 * r + 1)) := fun r h h' => nodeN_in h h'
  have hnn : ∀ r, (nodeN k.id (pubF k) m r).length = 32 := fun r => nodeN_length _ _ _ _
  generalize nodeN k.id (pubF k) m = N at *
  generalize pubF k = pub at *
  have HPB := Lib.hid hpub; have HPL := Lib.hid hpl; have HNL := Lib.hid hnl; have HNI := Lib.hid hni; have HNN := Lib.hid hnn
  have mk : ∀ W, (Instr.makeSlice 47 (.int .i64 (2 * (m : Int))) (.int .i64 (2 * (m : Int)))).run Try.prog W = .ok (.slice (some ⟨W.heap.size, 0, none⟩) M M) (W.alloc (.cells (strsV (List.replicate M [])).toArray 9)) := fun W => by
    rw [show 2 * (m : Int) = ((M : Nat) : Int) by omega]; exact make_S W M (by omega)
  obtain ⟨L0, hL0⟩ : ∃ L0 : List (List UInt8), L0 = List.replicate M [] := ⟨_, rfl⟩
  simp only [← hL0] at mk
  have hL0l : L0.length = M := by rw [hL0]; simp
  have HMM := Lib.hid hM
  have hM64 : M ≤ 64 ∧ 4 ≤ M ∧ m ≤ M := by omega
  obtain ⟨ots, height, id, seed, next⟩ := k
  simp only at HC hk HPB HNL HNI hid
  subst hk
  clear hpub hpl hnl hni hnn hL0 hM
  obtain ⟨hsh1, hsh2, hsh3⟩ := HSH.out
  go_enter Try.func84, Try.ntmps84
  go_wp2_with (refine wpList_boxV rfl 68 _ rfl C rfl ?_)
  intro g1 w1 e1 c1 t1 s1
  have l1 : w.heap.size ≤ g1 := by omega
  clear e1 s1
  obtain ⟨k0, k1, k2, k3, k4⟩ := HC.out _ _ c1
  have D1 := Lib.hid c1; have PT := Lib.hid t1
  have n3 : w1.heap.size ≠ g1 := by have := (Array.getElem?_eq_some_iff.1 c1).1; omega
  have l3 : w.heap.size ≤ w1.heap.size := t1.size
  clear c1 t1
  have hA : Pure w1 (w1.alloc (.cells (strsV L0).toArray 9)) := (Turn.refl _ _).alloc _
  have D1 := Lib.hid (hA.obj D1.out (fun e => e)); have PT := Lib.hid (PT.out.pure hA)
  have D3 : Hid ((w1.alloc (.cells (strsV L0).toArray 9)).heap[w1.heap.size]? = some (.cells (strsV L0).toArray 9 (0, 0))) := Lib.hid (heap_alloc_new _ _)
  clear hA
  go_wp2
  generalize w1.alloc (.cells (strsV L0).toArray 9) = w2 at *
  generalize w1.heap.size = g3 at *
  clear k0 k1 k2 k3 k4 mk hsh1 hsh2 hsh3
  go_loopw [5] (fun i wr => ∃ (r : Nat) (L : List (List UInt8)), r < M ∧ i = .int .i64 (r : Int) ∧ Hid (L.length = M) ∧ Hid (∀ j, r < j → j < M → L[j]? = some (N j)) ∧ Hid (wr.heap[g3]? = some (.cells (strsV L).toArray 9 (0, 0))) ∧ Hid (wr.heap[g1]? = some (.cells C.toArray 68 (0, 0))) ∧ Hid (Pure w wr)) (fun i _ => (intOf i).toNat)
  case atStart => exact ⟨M - 1, L0, by omega, by have := HMM.out; have : ((M - 1 : Nat) : Int) = 2 * (m : Int) - 1 := by omega
                                                 rw [this], Lib.hid hL0l, Lib.hid (fun j h1 h2 => by omega), D3, D1, PT⟩
  case round =>
    obtain ⟨r, L, hr, rfl, HL, HJ, D3, D1, HP⟩ := hrel
    by_cases hr0 : 0 < r
    · have q0 : decide (0 < (r : Int)) = true := decide_eq_true (by omega)
      have q0p : (0 : Int) < r := by omega
      have q0n : decide (0 < r) = true := decide_eq_true (by omega)
      have ir : IntKind.i64.wrap ((r : Int) - 1) = ((r - 1 : Nat) : Int) := by rw [IntWalk.i64_in _ (by omega)]; omega
      have im : IntKind.i64.wrap ((r : Int) - (m : Int)) = (r : Int) - (m : Int) := IntWalk.i64_in _ (by omega)
      have qr : (r : Int) < M := by omega
      have qr0 : (0 : Int) ≤ r := by omega
      have hBe := fun W => Be_anyS r 4 W (by omega) (by omega)
      have hb : (beB r 4).length = 4 := beB_length _ _
      obtain ⟨HLN, HJN⟩ := lay_text HL.out HJ.out hr hr0
      have HLN := Lib.hid HLN; have HJN := Lib.hid HJN
      have HSET := Lib.hid (strsV_set L r (N r) (by rw [HL.out]; exact hr))
      have HCL : Hid (r < (strsV L).length) := Lib.hid (by rw [strsV_length, HL.out]; exact hr)
      have hidl : id.length = 16 := hid
      obtain ⟨k0, k1, k2, k3, _⟩ := HC.out _ _ D1.out
      by_cases hrm : m ≤ r
      · have q1 : decide ((m : Int) ≤ (r : Int)) = true := decide_eq_true (by omega)
        have q1n : decide (m ≤ r) = true := decide_eq_true hrm
        have q1p : (m : Int) ≤ (r : Int) := by omega
        have hcast : (r : Int) - (m : Int) = ((r - m : Nat) : Int) := by omega
        have hNr := HNL.out r hrm
        have HPQ : Hid (∀ W, ∃ E, Calls Try.prog 126 #[.int .i64 ots, .string (bstr id), .int .i64 ((r : Int) - (m : Int)), .string (bstr seed)] W fun e w' => e = .returned (.tuple #[hv (pub (r - m)), .int .i64 E]) ∧ Pure W w') := Lib.hid fun W => by
          rw [hcast]
          exact ⟨_, HPB.out W (r - m)⟩
        have hpq := HPL.out (r - m)
        generalize pub (r - m) = pq at HPQ hpq hNr
        rw [tipV] at hNr
        generalize beB r 4 = b4 at hBe hb hNr
        obtain ⟨A1, hA1⟩ : ∃ A1, A1 = id ++ b4 := ⟨_, rfl⟩
        have A1l : A1.length = 16 + 4 := by rw [hA1, List.length_append]; first | rfl | omega | (simp [hidl, hb]; omega) | simp [hidl, hb]
        have aA1 : bstr id ++ bstr b4 = bstr A1 := by rw [hA1]; exact bstr_app id b4
        have zA1 : (bstr A1).size = 16 + 4 := by rw [bstr_size, A1l]
        have nA1 : ¬ (9223372036854775807 < 16 + 4) := by omega
        obtain ⟨A2, hA2⟩ : ∃ A2, A2 = A1 ++ [130, 130] := ⟨_, rfl⟩
        have A2l : A2.length = (16 + 4) + 2 := by rw [hA2, List.length_append]; first | rfl | omega | (simp; omega) | simp
        have aA2 : bstr A1 ++ (⟨#[130, 130]⟩ : ByteArray) = bstr A2 := by rw [hA2]; exact bstr_app A1 [130, 130]
        have zA2 : (bstr A2).size = (16 + 4) + 2 := by rw [bstr_size, A2l]
        have nA2 : ¬ (9223372036854775807 < (16 + 4) + 2) := by omega
        obtain ⟨A3, hA3⟩ : ∃ A3, A3 = A2 ++ pq := ⟨_, rfl⟩
        have A3l : A3.length = (16 + 4 + 2) + 32 := by rw [hA3, List.length_append]; first | rfl | omega | (simp; omega) | simp
        have aA3 : bstr A2 ++ bstr pq = bstr A3 := by rw [hA3]; exact bstr_app A2 pq
        have zA3 : (bstr A3).size = (16 + 4 + 2) + 32 := by rw [bstr_size, A3l]
        have nA3 : ¬ (9223372036854775807 < (16 + 4 + 2) + 32) := by omega
        rw [← hA1, ← hA2, ← hA3] at hNr
        have zi : (bstr id).size = 16 := by rw [bstr_size, hid]
        have z4 : (bstr b4).size = 4 := by rw [bstr_size, hb]
        have zq : (bstr pq).size = 32 := by rw [bstr_size, hpq]
        have HH := Lib.hid (fun W => H_any W A3 (by omega))
        rw [← hNr] at HH
        have HT := Lib.hid (fun W => T_any W pq hpq); have HBE := Lib.hid hBe
        clear hNr hcast hA1 hA2 hA3 A1l A2l A3l hBe hb hid
        go_wp2_with fail
        obtain ⟨E2, hP⟩ := HPQ.out wr
        refine hP.mono ?_
        rintro e w5 ⟨rfl, t5⟩
        have D3 := Lib.hid (t5.obj D3.out (fun e => e)); have D1 := Lib.hid (t5.obj D1.out (fun e => e)); have HP := Lib.hid (HP.out.pure t5)
        clear t5 k0 k1 k2 k3 HPQ hP
        go_wp2_with (refine wpList_allocZ rfl 62 rfl X HZ.out ?_)
        intro g6 w6 e6 c6 t6 s6
        have l6 : w5.heap.size ≤ g6 := by omega
        clear e6 s6
        go_wp2_with (refine wpList_store_blk rfl 62 _ _ rfl g6 _ (u8s pq) _ rfl rfl c6 (size28 hXl hpq) (info28_l hpq) (u8s_one _) ?_)
        intro w7 c7 t7 _
        have hp7 : Pure w5 w7 := t6.trans t7 fun q hq e => by omega
        have D3 := Lib.hid (hp7.obj D3.out (fun e => e)); have D1 := Lib.hid (hp7.obj D1.out (fun e => e)); have HP := Lib.hid (HP.out.pure hp7); have D6 := Lib.hid c7
        clear c6 t6 c7 t7 hp7 l6
        go_wp2_with fail
        refine wp_region_G (S := fun w' => Pure w7 w' ∧ Held [(g1, Obj.cells C.toArray 68 (0, 0)), (g3, Obj.cells (strsV L).toArray 9 (0, 0)), (g6, Obj.cells (u8s pq).toArray 62 (0, 0))] w') (T := fun _ _ _ => True) (by kernel_rfl) ⟨(Turn.refl _ _).drew, held_cons (show w7.drew.heap[_]? = _ from D1.out) (held_cons (show w7.drew.heap[_]? = _ from D3.out) (held_cons (show w7.drew.heap[_]? = _ from D6.out) (held_nil _)))⟩ trivial ?_
        have HG := Grow.held w7 [(g1, Obj.cells C.toArray 68 (0, 0)), (g3, Obj.cells (strsV L).toArray 9 (0, 0)), (g6, Obj.cells (u8s pq).toArray 62 (0, 0))]
        refine atN 0 ?_
        iterate 3
          refine anyG_y HG (v := ?_) rfl (by kernel_rfl) (fun _ _ _ h => h) (fun _ _ _ => Iff.rfl) (Or.inl ⟨by rfl, fun w hSw => ?_⟩) ?_
          rotate_left
          · skip
            first | (go_simp; done) | (go_simp; with_reducible rfl)
          simp only [Nat.reduceAdd, AP]
        refine atN 3 ?_
        refine anyG_y HG (v := ?_) rfl (by kernel_rfl) (fun _ _ _ h => h) (fun _ _ _ => Iff.rfl) (Or.inl ⟨by rfl, fun w hSw => ?_⟩) ?_
        rotate_left
        · obtain ⟨s0, s1, s2, s3, s4⟩ := HC.out _ _ hSw.2.head
          first | (go_simp; done) | (go_simp; with_reducible rfl)
        simp only [Nat.reduceAdd, AP]
        refine atN 4 ?_
        refine anyG_y HG (v := ?_) rfl (by kernel_rfl) (fun _ _ _ h => h) (fun _ _ _ => Iff.rfl) (Or.inl ⟨by rfl, fun w hSw => ?_⟩) ?_
        rotate_left
        · skip
          first | (go_simp; done) | (go_simp; with_reducible rfl)
        simp only [Nat.reduceAdd, AP]
        refine anyG_call HG (i := 5) (fun w hSw => HBE.out w) rfl (by kernel_rfl) (by kernel_rfl) (by kernel_rfl) (fun _ _ _ h => h) (fun _ _ _ => Iff.rfl) (by rfl) (fun w hSw => by go_simp; first | done | with_reducible rfl) ?_
        simp only [AP]
        refine atN 6 ?_
        iterate 2
          refine anyG_y HG (v := ?_) rfl (by kernel_rfl) (fun _ _ _ h => h) (fun _ _ _ => Iff.rfl) (Or.inl ⟨by rfl, fun w hSw => ?_⟩) ?_
          rotate_left
          · skip
            first | (go_simp; done) | (go_simp; with_reducible rfl)
          simp only [Nat.reduceAdd, AP]
        refine anyG_take HG (i := 8) (v := hv pq) rfl (by kernel_rfl) (by kernel_rfl) (by kernel_rfl) (fun _ _ _ h => h) (fun _ _ _ => Iff.rfl) (yieldsIf_load_mid (by rfl) 62 _ rfl g6 0 rfl (u8s pq) _ (fun w hSw => range_of_row hSw.2.tail.tail.head) Try.underlying62 rfl (info28_l hpq)) ?_
        simp only [AP]
        refine anyG_call HG (i := 9) (fun w hSw => HT.out w) rfl (by kernel_rfl) (by kernel_rfl) (by kernel_rfl) (fun _ _ _ h => h) (fun _ _ _ => Iff.rfl) (by rfl) (fun w hSw => by go_simp; first | done | with_reducible rfl) ?_
        simp only [AP]
        refine atN 10 ?_
        refine anyG_y HG (v := ?_) rfl (by kernel_rfl) (fun _ _ _ h => h) (fun _ _ _ => Iff.rfl) (Or.inl ⟨by rfl, fun w hSw => ?_⟩) ?_
        rotate_left
        · skip
          first | (go_simp; done) | (go_simp; with_reducible rfl)
        simp only [Nat.reduceAdd, AP]
        refine anyG_call HG (i := 11) (fun w hSw => HH.out w) rfl (by kernel_rfl) (by kernel_rfl) (by kernel_rfl) (fun _ _ _ h => h) (fun _ _ _ => Iff.rfl) (by rfl) (fun w hSw => by go_simp; first | done | with_reducible rfl) ?_
        simp only [AP]
        refine atN 12 ?_
        refine anyG_y HG (v := ?_) rfl (by kernel_rfl) (fun _ _ _ h => h) (fun _ _ _ => Iff.rfl) (Or.inl ⟨by rfl, fun w hSw => ?_⟩) ?_
        rotate_left
        · skip
          first | (go_simp; done) | (go_simp; with_reducible rfl)
        simp only [Nat.reduceAdd, AP]
        refine anyG_tail [13] (k := 13) (by kernel_rfl) (fun w8 hS _ => ?_)
        simp only [List.filterMap_cons, List.filterMap_nil, List.getElem?_toArray, List.getElem?_cons_succ, List.getElem?_cons_zero]
        obtain ⟨hpS, hS⟩ := hS
        clear HG
        have HP := Lib.hid (HP.out.pure hpS)
        have D1 := Lib.hid hS.head
        have D3 := Lib.hid hS.tail.head
        clear hS hpS
        have c3 : w8.cell? ⟨g3, r, none⟩ = some ((strsV L)[r]'HCL.out) := by rw [cell_of_row w8 g3 r _ _ _ D3.out, List.getElem?_toArray, List.getElem?_eq_getElem HCL.out]
        have f3 : w8.frozen? ⟨g3, r, none⟩ = false := frozen_of_row w8 g3 r _ _ D3.out
        obtain ⟨d3, t9, _⟩ := setAt (i := r) (v := .string (bstr (N r))) D3.out HCL.out
        rw [HSET.out] at d3
        have D3 := Lib.hid d3; have D1 := Lib.hid (t9.obj D1.out (Ne.symm n3)); have HP := Lib.hid (HP.out.trans t9 fun q hq e => by omega : Pure w _)
        clear d3 t9
        go_wp2
        exact ⟨⟨r - 1, L.set r (N r), by omega, rfl, HLN, HJN, D3, D1, HP⟩, by simp [intOf]; omega⟩
      · have q1 : decide ((m : Int) ≤ (r : Int)) = false := decide_eq_false (by omega)
        have q1n : decide (m ≤ r) = false := decide_eq_false hrm
        have q1p : ¬ (m : Int) ≤ (r : Int) := by omega
        have hM2 := HMM.out
        have hNr := HNI.out r (by omega) (by omega)
        obtain ⟨ra, hra⟩ : ∃ ra, ra = 2 * r := ⟨_, rfl⟩
        rw [← hra] at hNr
        obtain ⟨rb, hrb⟩ : ∃ rb, rb = ra + 1 := ⟨_, rfl⟩
        rw [← hrb] at hNr
        have HA1 := Lib.hid (HJ.out ra (by omega) (by omega))
        have HA2 := Lib.hid (HJ.out rb (by omega) (by omega))
        have ha := HNN.out ra
        have hb2 := HNN.out rb
        have ia : IntKind.i64.wrap (2 * (r : Int)) = (ra : Int) := by rw [IntWalk.i64_in _ (by omega)]; omega
        have ib : IntKind.i64.wrap ((ra : Int) + 1) = (rb : Int) := by rw [IntWalk.i64_in _ (by omega)]; omega
        have ja : IntKind.i64.wrap (ra : Int) = ra := IntWalk.i64_in _ (by omega)
        have jb : IntKind.i64.wrap (rb : Int) = rb := IntWalk.i64_in _ (by omega)
        have xa : (ra : Int) < M := by omega
        have xb : (rb : Int) < M := by omega
        have xa0 : (0 : Int) ≤ ra := by omega
        have xb0 : (0 : Int) ≤ rb := by omega
        generalize N ra = a at *
        generalize N rb = b at *
        rw [nodV] at hNr
        generalize beB r 4 = b4 at hBe hb hNr
        obtain ⟨A1, hA1⟩ : ∃ A1, A1 = id ++ b4 := ⟨_, rfl⟩
        have A1l : A1.length = 16 + 4 := by rw [hA1, List.length_append]; first | rfl | omega | (simp [hidl, hb]; omega) | simp [hidl, hb]
        have aA1 : bstr id ++ bstr b4 = bstr A1 := by rw [hA1]; exact bstr_app id b4
        have zA1 : (bstr A1).size = 16 + 4 := by rw [bstr_size, A1l]
        have nA1 : ¬ (9223372036854775807 < 16 + 4) := by omega
        obtain ⟨A2, hA2⟩ : ∃ A2, A2 = A1 ++ [131, 131] := ⟨_, rfl⟩
        have A2l : A2.length = (16 + 4) + 2 := by rw [hA2, List.length_append]; first | rfl | omega | (simp; omega) | simp
        have aA2 : bstr A1 ++ (⟨#[131, 131]⟩ : ByteArray) = bstr A2 := by rw [hA2]; exact bstr_app A1 [131, 131]
        have zA2 : (bstr A2).size = (16 + 4) + 2 := by rw [bstr_size, A2l]
        have nA2 : ¬ (9223372036854775807 < (16 + 4) + 2) := by omega
        obtain ⟨A3, hA3⟩ : ∃ A3, A3 = A2 ++ a := ⟨_, rfl⟩
        have A3l : A3.length = (16 + 4 + 2) + 32 := by rw [hA3, List.length_append]; first | rfl | omega | (simp; omega) | simp
        have aA3 : bstr A2 ++ bstr a = bstr A3 := by rw [hA3]; exact bstr_app A2 a
        have zA3 : (bstr A3).size = (16 + 4 + 2) + 32 := by rw [bstr_size, A3l]
        have nA3 : ¬ (9223372036854775807 < (16 + 4 + 2) + 32) := by omega
        obtain ⟨A4, hA4⟩ : ∃ A4, A4 = A3 ++ b := ⟨_, rfl⟩
        have A4l : A4.length = (16 + 4 + 2 + 32) + 32 := by rw [hA4, List.length_append]; first | rfl | omega | (simp; omega) | simp
        have aA4 : bstr A3 ++ bstr b = bstr A4 := by rw [hA4]; exact bstr_app A3 b
        have zA4 : (bstr A4).size = (16 + 4 + 2 + 32) + 32 := by rw [bstr_size, A4l]
        have nA4 : ¬ (9223372036854775807 < (16 + 4 + 2 + 32) + 32) := by omega
        rw [← hA1, ← hA2, ← hA3, ← hA4] at hNr
        have zi : (bstr id).size = 16 := by rw [bstr_size, hid]
        have z4 : (bstr b4).size = 4 := by rw [bstr_size, hb]
        have za : (bstr a).size = 32 := by rw [bstr_size, ha]
        have zb : (bstr b).size = 32 := by rw [bstr_size, hb2]
        have HH := Lib.hid (fun W => H_any W A4 (by omega))
        rw [← hNr] at HH
        have HBE := Lib.hid hBe
        clear hNr hA1 hA2 hA3 hA4 A1l A2l A3l A4l hBe hb hid hra hrb hM2 k0 k1 k3
        go_wp2_with fail
        refine wp_region_G (S := fun w' => Pure wr w' ∧ Held [(g1, Obj.cells C.toArray 68 (0, 0)), (g3, Obj.cells (strsV L).toArray 9 (0, 0))] w') (T := fun _ _ _ => True) (by kernel_rfl) ⟨(Turn.refl _ _).drew, held_cons (show wr.drew.heap[_]? = _ from D1.out) (held_cons (show wr.drew.heap[_]? = _ from D3.out) (held_nil _))⟩ trivial ?_
        have HG := Grow.held wr [(g1, Obj.cells C.toArray 68 (0, 0)), (g3, Obj.cells (strsV L).toArray 9 (0, 0))]
        refine atN 0 ?_
        iterate 3
          refine anyG_y HG (v := ?_) rfl (by kernel_rfl) (fun _ _ _ h => h) (fun _ _ _ => Iff.rfl) (Or.inl ⟨by rfl, fun w hSw => ?_⟩) ?_
          rotate_left
          · skip
            first | (go_simp; done) | (go_simp; with_reducible rfl)
          simp only [Nat.reduceAdd, AP]
        refine atN 3 ?_
        refine anyG_y HG (v := ?_) rfl (by kernel_rfl) (fun _ _ _ h => h) (fun _ _ _ => Iff.rfl) (Or.inl ⟨by rfl, fun w hSw => ?_⟩) ?_
        rotate_left
        · obtain ⟨s0, s1, s2, s3, s4⟩ := HC.out _ _ hSw.2.head
          first | (go_simp; done) | (go_simp; with_reducible rfl)
        simp only [Nat.reduceAdd, AP]
        refine atN 4 ?_
        refine anyG_y HG (v := ?_) rfl (by kernel_rfl) (fun _ _ _ h => h) (fun _ _ _ => Iff.rfl) (Or.inl ⟨by rfl, fun w hSw => ?_⟩) ?_
        rotate_left
        · skip
          first | (go_simp; done) | (go_simp; with_reducible rfl)
        simp only [Nat.reduceAdd, AP]
        refine anyG_take HG (i := 8) (v := ?_) rfl (by kernel_rfl) (by kernel_rfl) (by kernel_rfl) (fun _ _ _ h => h) (fun _ _ _ => Iff.rfl) (Or.inl ⟨by rfl, fun w hSw => ?_⟩) ?_
        rotate_left
        · skip
          first | (go_simp; done) | (go_simp; with_reducible rfl)
        simp only [AP]
        refine anyG_take HG (i := 9) (v := ?_) rfl (by kernel_rfl) (by kernel_rfl) (by kernel_rfl) (fun _ _ _ h => h) (fun _ _ _ => Iff.rfl) (Or.inl ⟨by rfl, fun w hSw => ?_⟩) ?_
        rotate_left
        · skip
          first | (go_simp; done) | (go_simp; with_reducible rfl)
        simp only [AP]
        refine anyG_take HG (i := 10) (v := ?_) rfl (by kernel_rfl) (by kernel_rfl) (by kernel_rfl) (fun _ _ _ h => h) (fun _ _ _ => Iff.rfl) (Or.inl ⟨by rfl, fun w hSw => ?_⟩) ?_
        rotate_left
        · skip
          first | (go_simp; done) | (go_simp; with_reducible rfl)
        simp only [AP]
        refine anyG_take HG (i := 11) (v := ?_) rfl (by kernel_rfl) (by kernel_rfl) (by kernel_rfl) (fun _ _ _ h => h) (fun _ _ _ => Iff.rfl) (Or.inl ⟨by rfl, fun w hSw => ?_⟩) ?_
        rotate_left
        · skip
          first | (go_simp; done) | (go_simp; with_reducible rfl)
        simp only [AP]
        refine anyG_take HG (i := 12) (v := ?_) rfl (by kernel_rfl) (by kernel_rfl) (by kernel_rfl) (fun _ _ _ h => h) (fun _ _ _ => Iff.rfl) (Or.inl ⟨by rfl, fun w hSw => ?_⟩) ?_
        rotate_left
        · skip
          have ca := strs_cell HA1.out hSw.2.tail.head
          first | (go_simp; done) | (go_simp; with_reducible rfl)
        simp only [AP]
        refine anyG_take HG (i := 14) (v := ?_) rfl (by kernel_rfl) (by kernel_rfl) (by kernel_rfl) (fun _ _ _ h => h) (fun _ _ _ => Iff.rfl) (Or.inl ⟨by rfl, fun w hSw => ?_⟩) ?_
        rotate_left
        · skip
          first | (go_simp; done) | (go_simp; with_reducible rfl)
        simp only [AP]
        refine anyG_take HG (i := 15) (v := ?_) rfl (by kernel_rfl) (by kernel_rfl) (by kernel_rfl) (fun _ _ _ h => h) (fun _ _ _ => Iff.rfl) (Or.inl ⟨by rfl, fun w hSw => ?_⟩) ?_
        rotate_left
        · skip
          first | (go_simp; done) | (go_simp; with_reducible rfl)
        simp only [AP]
        refine anyG_take HG (i := 16) (v := ?_) rfl (by kernel_rfl) (by kernel_rfl) (by kernel_rfl) (fun _ _ _ h => h) (fun _ _ _ => Iff.rfl) (Or.inl ⟨by rfl, fun w hSw => ?_⟩) ?_
        rotate_left
        · skip
          first | (go_simp; done) | (go_simp; with_reducible rfl)
        simp only [AP]
        refine anyG_take HG (i := 17) (v := ?_) rfl (by kernel_rfl) (by kernel_rfl) (by kernel_rfl) (fun _ _ _ h => h) (fun _ _ _ => Iff.rfl) (Or.inl ⟨by rfl, fun w hSw => ?_⟩) ?_
        rotate_left
        · skip
          first | (go_simp; done) | (go_simp; with_reducible rfl)
        simp only [AP]
        refine anyG_take HG (i := 18) (v := ?_) rfl (by kernel_rfl) (by kernel_rfl) (by kernel_rfl) (fun _ _ _ h => h) (fun _ _ _ => Iff.rfl) (Or.inl ⟨by rfl, fun w hSw => ?_⟩) ?_
        rotate_left
        · skip
          first | (go_simp; done) | (go_simp; with_reducible rfl)
        simp only [AP]
        refine anyG_take HG (i := 19) (v := ?_) rfl (by kernel_rfl) (by kernel_rfl) (by kernel_rfl) (fun _ _ _ h => h) (fun _ _ _ => Iff.rfl) (Or.inl ⟨by rfl, fun w hSw => ?_⟩) ?_
        rotate_left
        · skip
          have cb := strs_cell HA2.out hSw.2.tail.head
          first | (go_simp; done) | (go_simp; with_reducible rfl)
        simp only [AP]
        refine anyG_call HG (i := 5) (fun w hSw => HBE.out w) rfl (by kernel_rfl) (by kernel_rfl) (by kernel_rfl) (fun _ _ _ h => h) (fun _ _ _ => Iff.rfl) (by rfl) (fun w hSw => by go_simp; first | done | with_reducible rfl) ?_
        simp only [AP]
        refine anyG_take HG (i := 6) (v := ?_) rfl (by kernel_rfl) (by kernel_rfl) (by kernel_rfl) (fun _ _ _ h => h) (fun _ _ _ => Iff.rfl) (Or.inl ⟨by rfl, fun w hSw => ?_⟩) ?_
        rotate_left
        · skip
          first | (go_simp; done) | (go_simp; with_reducible rfl)
        simp only [AP]
        refine anyG_take HG (i := 7) (v := ?_) rfl (by kernel_rfl) (by kernel_rfl) (by kernel_rfl) (fun _ _ _ h => h) (fun _ _ _ => Iff.rfl) (Or.inl ⟨by rfl, fun w hSw => ?_⟩) ?_
        rotate_left
        · skip
          first | (go_simp; done) | (go_simp; with_reducible rfl)
        simp only [AP]
        refine anyG_take HG (i := 13) (v := ?_) rfl (by kernel_rfl) (by kernel_rfl) (by kernel_rfl) (fun _ _ _ h => h) (fun _ _ _ => Iff.rfl) (Or.inl ⟨by rfl, fun w hSw => ?_⟩) ?_
        rotate_left
        · skip
          first | (go_simp; done) | (go_simp; with_reducible rfl)
        simp only [AP]
        refine anyG_take HG (i := 20) (v := ?_) rfl (by kernel_rfl) (by kernel_rfl) (by kernel_rfl) (fun _ _ _ h => h) (fun _ _ _ => Iff.rfl) (Or.inl ⟨by rfl, fun w hSw => ?_⟩) ?_
        rotate_left
        · skip
          first | (go_simp; done) | (go_simp; with_reducible rfl)
        simp only [AP]
        refine anyG_call HG (i := 21) (fun w hSw => HH.out w) rfl (by kernel_rfl) (by kernel_rfl) (by kernel_rfl) (fun _ _ _ h => h) (fun _ _ _ => Iff.rfl) (by rfl) (fun w hSw => by go_simp; first | done | with_reducible rfl) ?_
        simp only [AP]
        refine anyG_take HG (i := 22) (v := ?_) rfl (by kernel_rfl) (by kernel_rfl) (by kernel_rfl) (fun _ _ _ h => h) (fun _ _ _ => Iff.rfl) (Or.inl ⟨by rfl, fun w hSw => ?_⟩) ?_
        rotate_left
        · skip
          first | (go_simp; done) | (go_simp; with_reducible rfl)
        simp only [AP]
        refine anyG_tail [23] (k := 23) (by kernel_rfl) (fun w8 hS _ => ?_)
        simp only [List.filterMap_cons, List.filterMap_nil, List.getElem?_toArray, List.getElem?_cons_succ, List.getElem?_cons_zero]
        obtain ⟨hpS, hS⟩ := hS
        clear HG
        have HP := Lib.hid (HP.out.pure hpS)
        have D1 := Lib.hid hS.head
        have D3 := Lib.hid hS.tail.head
        clear hS hpS
        have c3 : w8.cell? ⟨g3, r, none⟩ = some ((strsV L)[r]'HCL.out) := by rw [cell_of_row w8 g3 r _ _ _ D3.out, List.getElem?_toArray, List.getElem?_eq_getElem HCL.out]
        have f3 : w8.frozen? ⟨g3, r, none⟩ = false := frozen_of_row w8 g3 r _ _ D3.out
        obtain ⟨d3, t9, _⟩ := setAt (i := r) (v := .string (bstr (N r))) D3.out HCL.out
        rw [HSET.out] at d3
        have D3 := Lib.hid d3; have D1 := Lib.hid (t9.obj D1.out (Ne.symm n3)); have HP := Lib.hid (HP.out.trans t9 fun q hq e => by omega : Pure w _)
        clear d3 t9
        go_wp2
        exact ⟨⟨r - 1, L.set r (N r), by omega, rfl, HLN, HJN, D3, D1, HP⟩, by simp [intOf]; omega⟩
    · have q0 : ¬ ((0 : Int) < r) := by omega
      obtain rfl : r = 0 := by omega
      go_wp2
      go_ret
      exact ⟨_, rfl, ⟨g3, L, rfl, D3.out, HL.out, fun i h1 h2 => HJ.out i h1 h2, l3⟩, HP.out⟩

set_option maxRecDepth 100000 in
set_option maxHeartbeats 4000000 in
theorem LmsPublicR_any (w : World) (k : LKey) : Calls Try.prog 36 #[.agg (lkC k).toArray] w fun e w' => e = .returned (.tuple #[.string (bstr (lpubV k).1), .int .i64 (lpubV k).2]) ∧ Pure w w' := by
  have hmay := fun W => LmsMayR_any W k
  have htree := fun W (h : Nat) (hk : k.height = (h : Int)) (h1 : 1 ≤ h) (h5 : h ≤ 5) (hid : k.id.length = 16) => nodesR_any W k h hk h1 h5 hid
  have hpv : lpubV k = if lmayB k = true then (beB (typeV k.height).toNat 4 ++ beB k.ots.toNat 4 ++ k.id ++ nodeN k.id (pubF k) (2 ^ k.height.toNat) 1, 0) else ([], 500) := rfl
  have HC := Lib.hid (fun W g => @lk_cells k W g)
  have hCl : (lkC k).length = 5 := rfl
  obtain ⟨C, hC⟩ : ∃ C, C = lkC k := ⟨_, rfl⟩
  rw [← hC] at HC hmay hCl ⊢
  have htree' : ∀ W (h : Nat), k.height = (h : Int) → 1 ≤ h → h ≤ 5 → k.id.length = 16 → Calls Try.prog 84 #[.agg C.toArray] W fun e w' => ∃ r, e = .returned r ∧ TreeS W w' r (nodeN k.id (pubF k) (2 ^ h)) (2 * 2 ^ h) ∧ Pure W w' := by
    rw [hC]; exact htree
  clear htree
  have HCI : Hid ((Try.prog.info? 68).map (·.size) = some C.length) := Lib.hid (by rw [hCl]; exact infoLK)
  clear hC hCl
  by_cases hB : lmayB k = true
  · rw [hB] at hmay
    rw [if_pos hB] at hpv
    obtain ⟨o, ht, n, ho, ho2, hh, h1, h5, hid, _, _, _⟩ := lmay_parts hB
    obtain ⟨t, htv, ht2⟩ := typeV_nat ht h5
    have htr := fun W => htree' W ht hh h1 h5 hid
    have hty := fun W => Calls.pureEq (kindOfR_any W (ht : Int) (by omega) (by omega))
    rw [htv] at hty
    have hn1 := fun W => Be_anyS t 4 W (by omega) (by omega)
    have hn2 := fun W => Be_anyS o 4 W (by omega) (by omega)
    rw [hh, htv, ho, Int.toNat_natCast, Int.toNat_natCast, Int.toNat_natCast] at hpv
    have hb1 : (beB t 4).length = 4 := beB_length _ _
    have hb2 : (beB o 4).length = 4 := beB_length _ _
    have hnl : (nodeN k.id (pubF k) (2 ^ ht) 1).length = 32 := nodeN_length _ _ _ _
    have HNE : Hid (2 ≤ 2 ^ ht) := Lib.hid (by rcases (by omega : ht = 1 ∨ ht = 2 ∨ ht = 3 ∨ ht = 4 ∨ ht = 5) with rfl | rfl | rfl | rfl | rfl <;> decide)
    generalize hNN : nodeN k.id (pubF k) (2 ^ ht) = NN at *
    obtain ⟨nd, hnd⟩ : ∃ nd, nd = NN 1 := ⟨_, rfl⟩
    rw [← hnd] at hnl hpv
    have HND := Lib.hid hnd; clear hnd hNN
    obtain ⟨M, hM⟩ : ∃ M, M = 2 * 2 ^ ht := ⟨_, rfl⟩
    rw [← hM] at htr
    have hM4 : 4 ≤ M := by have := HNE.out; omega
    clear hM
    generalize beB t 4 = b1 at *
    generalize beB o 4 = b2 at *
    obtain ⟨ots, height, id, seed, next⟩ := k
    simp only at HC hid hh ho hpv
    subst hh
    subst ho
    obtain ⟨A1, hA1⟩ : ∃ A1, A1 = b1 ++ b2 := ⟨_, rfl⟩
    have A1l : A1.length = 4 + 4 := by rw [hA1, List.length_append]; first | rfl | omega | (simp; omega) | simp
    have aA1 : bstr b1 ++ bstr b2 = bstr A1 := by rw [hA1]; exact bstr_app b1 b2
    have zA1 : (bstr A1).size = 4 + 4 := by rw [bstr_size, A1l]
    have nA1 : ¬ (9223372036854775807 < 4 + 4) := by omega
    obtain ⟨A2, hA2⟩ : ∃ A2, A2 = A1 ++ id := ⟨_, rfl⟩
    have A2l : A2.length = (4 + 4) + 16 := by rw [hA2, List.length_append]; first | rfl | omega | (simp; omega) | simp
    have aA2 : bstr A1 ++ bstr id = bstr A2 := by rw [hA2]; exact bstr_app A1 id
    have zA2 : (bstr A2).size = (4 + 4) + 16 := by rw [bstr_size, A2l]
    have nA2 : ¬ (9223372036854775807 < (4 + 4) + 16) := by omega
    obtain ⟨A3, hA3⟩ : ∃ A3, A3 = A2 ++ nd := ⟨_, rfl⟩
    have A3l : A3.length = (4 + 4 + 16) + 32 := by rw [hA3, List.length_append]; first | rfl | omega | (simp; omega) | simp
    have aA3 : bstr A2 ++ bstr nd = bstr A3 := by rw [hA3]; exact bstr_app A2 nd
    have zA3 : (bstr A3).size = (4 + 4 + 16) + 32 := by rw [bstr_size, A3l]
    have nA3 : ¬ (9223372036854775807 < (4 + 4 + 16) + 32) := by omega
    rw [← hA1, ← hA2, ← hA3] at hpv
    have zi : (bstr id).size = 16 := by rw [bstr_size, hid]
    have z1 : (bstr b1).size = 4 := by rw [bstr_size, hb1]
    have z2 : (bstr b2).size = 4 := by rw [bstr_size, hb2]
    have z3 : (bstr nd).size = 32 := by rw [bstr_size, hnl]
    rw [hpv]
    have HM := Lib.hid hmay; have HT := Lib.hid htr; have HTY := Lib.hid hty; have HN1 := Lib.hid hn1; have HN2 := Lib.hid hn2
    have HM4 := Lib.hid hM4
    clear hmay htr hty hn1 hn2 htree' hpv hB hA1 hA2 hA3 A1l A2l A3l htv hM4 hid hb1 hb2 h1 h5 ho2 ht2
    go_enter Try.func36, Try.ntmps36
    go_wp2_with (refine wpList_boxV rfl 68 _ rfl C rfl ?_)
    intro g1 w1 e1 c1 t1 s1
    clear e1 s1
    have D1 := Lib.hid c1; have PT := Lib.hid t1
    clear c1 t1
    have R1 := range_of_row D1.out
    go_wp2_with (refine wpList_load_mid rfl 68 _ rfl g1 0 rfl C _ R1 Try.underlying68 rfl HCI.out ?_)
    clear R1
    refine (HM.out _).mono ?_
    rintro e w2 ⟨rfl, t2⟩
    have D1 := Lib.hid (t2.obj D1.out (fun e => e)); have PT := Lib.hid (PT.out.pure t2)
    clear t2
    go_wp2_with fail
    refine wp_region_held_drew (S := fun w' => w'.heap[g1]? = some (.cells C.toArray 68 (0, 0))) (by kernel_rfl) (show w2.drew.heap[g1]? = _ from D1.out) (fun hS => ?_)
    have HS := Lib.hid hS
    have PT := Lib.hid PT.out.drew
    clear hS D1
    generalize w2.drew = w3 at *
    refine wpAnyH_take (i := 0) (v := ?_) rfl (by kernel_rfl) (by kernel_rfl) (by kernel_rfl) (fun _ _ _ h => h) (Or.inl ⟨by rfl, fun w hSw => ?_⟩) HS.out ?_
    rotate_left
    · obtain ⟨s0, s1, s2, s3, s4⟩ := HC.out _ _ hSw
      first | (go_simp; done) | (go_simp; with_reducible rfl)
    simp only [AP]
    refine wpAnyH_take (i := 1) (v := ?_) rfl (by kernel_rfl) (by kernel_rfl) (by kernel_rfl) (fun _ _ _ h => h) (Or.inl ⟨by rfl, fun w hSw => ?_⟩) HS.out ?_
    rotate_left
    · obtain ⟨s0, s1, s2, s3, s4⟩ := HC.out _ _ hSw
      first | (go_simp; done) | (go_simp; with_reducible rfl)
    simp only [AP]
    refine wpAnyH_take (i := 4) (v := ?_) rfl (by kernel_rfl) (by kernel_rfl) (by kernel_rfl) (fun _ _ _ h => h) (Or.inl ⟨by rfl, fun w hSw => ?_⟩) HS.out ?_
    rotate_left
    · obtain ⟨s0, s1, s2, s3, s4⟩ := HC.out _ _ hSw
      first | (go_simp; done) | (go_simp; with_reducible rfl)
    simp only [AP]
    refine wpAnyH_take (i := 5) (v := ?_) rfl (by kernel_rfl) (by kernel_rfl) (by kernel_rfl) (fun _ _ _ h => h) (Or.inl ⟨by rfl, fun w hSw => ?_⟩) HS.out ?_
    rotate_left
    · obtain ⟨s0, s1, s2, s3, s4⟩ := HC.out _ _ hSw
      first | (go_simp; done) | (go_simp; with_reducible rfl)
    simp only [AP]
    refine wpAnyH_take (i := 8) (v := ?_) rfl (by kernel_rfl) (by kernel_rfl) (by kernel_rfl) (fun _ _ _ h => h) (Or.inl ⟨by rfl, fun w hSw => ?_⟩) HS.out ?_
    rotate_left
    · obtain ⟨s0, s1, s2, s3, s4⟩ := HC.out _ _ hSw
      first | (go_simp; done) | (go_simp; with_reducible rfl)
    simp only [AP]
    refine wpAnyH_take (i := 9) (v := ?_) rfl (by kernel_rfl) (by kernel_rfl) (by kernel_rfl) (fun _ _ _ h => h) (Or.inl ⟨by rfl, fun w hSw => ?_⟩) HS.out ?_
    rotate_left
    · obtain ⟨s0, s1, s2, s3, s4⟩ := HC.out _ _ hSw
      first | (go_simp; done) | (go_simp; with_reducible rfl)
    simp only [AP]
    refine wpAnyH_take (i := 11) (v := .agg C.toArray) rfl (by kernel_rfl) (by kernel_rfl) (by kernel_rfl) (fun _ _ _ h => h) (yieldsIf_load_mid (by rfl) 68 _ rfl g1 0 rfl C _ (fun w h => range_of_row h) Try.underlying68 rfl HCI.out) HS.out ?_
    simp only [AP]
    refine wpAnyH_step (i := 2) (by kernel_rfl) rfl fun K hK => ?_
    go_simp
    refine (HTY.out _).mono ?_
    rintro e w4 ⟨rfl, t4⟩
    have PT := Lib.hid (PT.out.pure t4); have HS := Lib.hid (t4.obj HS.out (fun e => e))
    clear t4
    refine hK.out _ _ HS.out ?_
    clear hK K
    try simp only [AP]
    refine wpAnyH_step (i := 3) (by kernel_rfl) rfl fun K hK => ?_
    go_simp
    refine (HN1.out _).mono ?_
    rintro e w5 ⟨rfl, t5⟩
    have PT := Lib.hid (PT.out.pure t5); have HS := Lib.hid (t5.obj HS.out (fun e => e))
    clear t5
    refine hK.out _ _ HS.out ?_
    clear hK K
    try simp only [AP]
    refine wpAnyH_step (i := 6) (by kernel_rfl) rfl fun K hK => ?_
    go_simp
    refine (HN2.out _).mono ?_
    rintro e w6 ⟨rfl, t6⟩
    have PT := Lib.hid (PT.out.pure t6); have HS := Lib.hid (t6.obj HS.out (fun e => e))
    clear t6
    refine hK.out _ _ HS.out ?_
    clear hK K
    try simp only [AP]
    refine wpAnyH_take (i := 7) (v := ?_) rfl (by kernel_rfl) (by kernel_rfl) (by kernel_rfl) (fun _ _ _ h => h) (Or.inl ⟨by rfl, fun w hSw => ?_⟩) HS.out ?_
    rotate_left
    · obtain ⟨s0, s1, s2, s3, s4⟩ := HC.out _ _ hSw
      first | (go_simp; done) | (go_simp; with_reducible rfl)
    simp only [AP]
    refine wpAnyH_take (i := 10) (v := ?_) rfl (by kernel_rfl) (by kernel_rfl) (by kernel_rfl) (fun _ _ _ h => h) (Or.inl ⟨by rfl, fun w hSw => ?_⟩) HS.out ?_
    rotate_left
    · obtain ⟨s0, s1, s2, s3, s4⟩ := HC.out _ _ hSw
      first | (go_simp; done) | (go_simp; with_reducible rfl)
    simp only [AP]
    refine wpAnyH_step (i := 12) (by kernel_rfl) rfl fun K hK => ?_
    go_simp
    refine (HT.out _).mono ?_
    rintro e w7 ⟨r, rfl, ⟨g3, L, rfl, d3, hL, hL3, l3⟩, t7⟩
    have HS := Lib.hid (t7.obj HS.out (fun e => e)); have PT := Lib.hid (PT.out.pure t7)
    have c3 := strs_cell (i := 1) (hL3 1 (by omega) (by have := HM4.out; omega)) d3
    rw [← HND.out] at c3
    have q1 : (1 : Int) < M := by have := HM4.out; omega
    clear t7 hL hL3 l3 d3
    refine hK.out _ _ HS.out ?_
    clear hK K
    try simp only [AP]
    refine wpAnyH_take (i := 13) (v := ?_) rfl (by kernel_rfl) (by kernel_rfl) (by kernel_rfl) (fun _ _ _ h => h) (Or.inl ⟨by rfl, fun w hSw => ?_⟩) HS.out ?_
    rotate_left
    · obtain ⟨s0, s1, s2, s3, s4⟩ := HC.out _ _ hSw
      first | (go_simp; done) | (go_simp; with_reducible rfl)
    simp only [AP]
    refine wpAnyH_step (i := 14) (by kernel_rfl) rfl fun K hK => ?_
    go_simp
    refine hK.out _ _ HS.out ?_
    clear hK K
    try simp only [AP]
    refine wpAnyH_take (i := 15) (v := ?_) rfl (by kernel_rfl) (by kernel_rfl) (by kernel_rfl) (fun _ _ _ h => h) (Or.inl ⟨by rfl, fun w hSw => ?_⟩) HS.out ?_
    rotate_left
    · obtain ⟨s0, s1, s2, s3, s4⟩ := HC.out _ _ hSw
      first | (go_simp; done) | (go_simp; with_reducible rfl)
    simp only [AP]
    refine wpAnyH_take (i := 16) (v := ?_) rfl (by kernel_rfl) (by kernel_rfl) (by kernel_rfl) (fun _ _ _ h => h) (Or.inl ⟨by rfl, fun w hSw => ?_⟩) HS.out ?_
    rotate_left
    · obtain ⟨s0, s1, s2, s3, s4⟩ := HC.out _ _ hSw
      first | (go_simp; done) | (go_simp; with_reducible rfl)
    simp only [AP]
    refine wpAnyH_take (i := 17) (v := ?_) rfl (by kernel_rfl) (by kernel_rfl) (by kernel_rfl) (fun _ _ _ h => h) (Or.inl ⟨by rfl, fun w hSw => ?_⟩) HS.out ?_
    rotate_left
    · obtain ⟨s0, s1, s2, s3, s4⟩ := HC.out _ _ hSw
      first | (go_simp; done) | (go_simp; with_reducible rfl)
    simp only [AP]
    refine wpAnyH_done (by kernel_rfl) ?_ _
    go_wp2
    go_ret2
    exact ⟨rfl, PT.out⟩
  · have hB2 : lmayB k = false := by simpa using hB
    rw [hB2] at hmay
    rw [if_neg hB] at hpv
    rw [hpv]
    have HM := Lib.hid hmay
    clear hmay htree' hpv hB hB2
    go_enter Try.func36, Try.ntmps36
    go_wp2_with (refine wpList_boxV rfl 68 _ rfl C rfl ?_)
    intro g1 w1 e1 c1 t1 s1
    clear e1 s1
    have PT := Lib.hid t1
    have R1 := range_of_row c1
    clear c1 t1
    go_wp2_with (refine wpList_load_mid rfl 68 _ rfl g1 0 rfl C _ R1 Try.underlying68 rfl HCI.out ?_)
    clear R1
    refine (HM.out _).mono ?_
    rintro e w2 ⟨rfl, t2⟩
    have PT := Lib.hid (PT.out.pure t2)
    clear t2
    go_wp2
    go_ret2
    exact ⟨rfl, PT.out⟩

set_option maxRecDepth 100000 in
set_option maxHeartbeats 4000000 in
theorem LmsSignR_any (w : World) (k : LKey) (msg : List UInt8) : Calls Try.prog 42 #[.agg (lkC k).toArray, .string (bstr msg)] w fun e w' =>
    e = .returned (.tuple #[.string (bstr (lsignV k msg).1), .agg (lkC (lsignV k msg).2.1).toArray, .int .i64 (lsignV k msg).2.2]) ∧ Pure w w' := by
  have hmay := fun W => LmsMayR_any W k
  have htree := fun W (h : Nat) (hk : k.height = (h : Int)) (h1 : 1 ≤ h) (h5 : h ≤ 5) (hid : k.id.length = 16) => nodesR_any W k h hk h1 h5 hid
  have hlv : lsignV k msg = if lmayB k = true ∧ msg.length ≤ 65536 then
    if k.next = ((2 ^ k.height.toNat : Nat) : Int) then ([], LKey0, 501)
    else (beB k.next.toNat 4 ++ (signV k.ots k.id k.next k.seed msg).1 ++ beB (typeV k.height).toNat 4 ++ sideV (nodeN k.id (pubF k) (2 ^ k.height.toNat)) (2 ^ k.height.toNat + k.next.toNat) k.height.toNat, { k with next := k.next + 1 }, 0)
    else ([], LKey0, 500) := rfl
  have HC := Lib.hid (fun W g => @lk_cells k W g)
  have hCl : (lkC k).length = 5 := rfl
  have hset : ∀ v : Int, (lkC k).take 4 ++ [Value.int .i64 v] ++ (lkC k).drop 5 = lkC { k with next := v } := fun v => rfl
  obtain ⟨C, hC⟩ : ∃ C, C = lkC k := ⟨_, rfl⟩
  rw [← hC] at HC hmay hCl hset ⊢
  have htree' : ∀ W (h : Nat), k.height = (h : Int) → 1 ≤ h → h ≤ 5 → k.id.length = 16 → Calls Try.prog 84 #[.agg C.toArray] W fun e w' => ∃ r, e = .returned r ∧ TreeS W w' r (nodeN k.id (pubF k) (2 ^ h)) (2 * 2 ^ h) ∧ Pure W w' := by
    rw [hC]; exact htree
  have HSET := Lib.hid hset
  clear htree hset
  have HCI : Hid ((Try.prog.info? 68).map (·.size) = some C.length) := Lib.hid (by rw [hCl]; exact infoLK)
  have HCL := Lib.hid hCl
  clear hC hCl
  obtain ⟨n, hn⟩ : ∃ n, n = msg.length := ⟨_, rfl⟩
  have zm : (bstr msg).size = n := by rw [bstr_size, hn]
  rw [← hn] at hlv
  have HN := Lib.hid hn
  clear hn
  by_cases hB : lmayB k = true
  · rw [hB] at hmay
    by_cases hm : n ≤ 65536
    · rw [if_pos ⟨hB, hm⟩] at hlv
      obtain ⟨o, h, q, ho, ho2, hh, h1, h5, hid, hseed, hq, hqm⟩ := lmay_parts hB
      have hh5 : h = 1 ∨ h = 2 ∨ h = 3 ∨ h = 4 ∨ h = 5 := by omega
      have hsh1 := may_sh1 h hh5
      have hsh3 := may_sh3 h hh5
      have hp0 : ((2 ^ h : Nat) : Int) = (2 : Int) ^ h := by rw [Int.natCast_pow]; rfl
      rw [hh, hq, Int.toNat_natCast, Int.toNat_natCast] at hlv
      have hm32 : 2 ^ h ≤ 32 := by rcases hh5 with rfl | rfl | rfl | rfl | rfl <;> decide
      have hway := fun hlt => wayUp_of (q := q) h1 h5 hlt
      have htr := fun W => htree' W h hh h1 h5 hid
      obtain ⟨m, hmm⟩ : ∃ m, m = 2 ^ h := ⟨_, rfl⟩
      rw [← hmm] at hlv hm32 hp0 hqm hway htr
      have hsh2 : IntKind.i64.wrap ((2 : Int) ^ h) = (m : Int) := by rw [hp0]; exact may_sh2 h hh5
      replace hsh1 : wrap64 ((2 : Int) ^ h) = (m : Int) := by rw [hp0]; exact hsh1
      replace hsh3 : IntKind.i64.wrap ((2 : Int) ^ min h 64) = (m : Int) := by rw [hp0]; exact hsh3
      have HSH := Lib.hid (And.intro hsh1 (And.intro hsh2 hsh3))
      clear hmm hp0 hh5 htree' hsh1 hsh2 hsh3
      have d0 : decide ((65536 : Int) < n) = false := decide_eq_false (by omega)
      have d0n : decide (65536 < n) = false := decide_eq_false (by omega)
      have HM := Lib.hid hmay
      by_cases hlt : q = m
      · subst hlt
        rw [if_pos rfl] at hlv
        rw [hlv]
        have d1 : ((q : Int) == (q : Int)) = true := beq_self_eq_true _
        obtain ⟨ots, height, id, seed, next⟩ := k
        simp only at HC hh hq ho
        subst hh
        subst hq
        clear hmay hB hlv hway htr ho2 hid hseed hm HSET ho
        obtain ⟨hsh1, hsh2, hsh3⟩ := HSH.out
        go_enter Try.func42, Try.ntmps42
        go_wp2_with (refine wpList_boxV rfl 68 _ rfl C rfl ?_)
        intro g2 w1 e1 c1 t1 s1
        have l2 : w.heap.size ≤ g2 := by omega
        clear e1 s1
        have D2 := Lib.hid c1; have PT := Lib.hid t1
        clear c1 t1
        go_wp2_with (refine wpList_allocZ rfl 68 rfl _ zeroLK ?_)
        intro g5 w2 e2 c2 t2 s2
        have l5 : w.heap.size ≤ g5 := by have := PT.out.size; omega
        have n25 : g5 ≠ g2 := by have := (Array.getElem?_eq_some_iff.1 D2.out).1; omega
        clear e2 s2
        have D5 := Lib.hid c2; have D2 := Lib.hid (t2.obj D2.out (fun e => e)); have PT := Lib.hid (PT.out.pure t2)
        clear c2 t2
        have R1 := range_of_row D2.out
        go_wp2_with (refine wpList_load_mid rfl 68 _ rfl g2 0 rfl C _ R1 Try.underlying68 rfl HCI.out ?_)
        clear R1
        refine (HM.out _).mono ?_
        rintro e w3 ⟨rfl, t3⟩
        have D2 := Lib.hid (t3.obj D2.out (fun e => e)); have D5 := Lib.hid (t3.obj D5.out (fun e => e)); have PT := Lib.hid (PT.out.pure t3)
        clear t3
        go_wp2_with fail
        refine wp_region_G (S := fun w' => Pure w3 w' ∧ Held [(g2, Obj.cells C.toArray 68 (0, 0)), (g5, Obj.cells (lkC LKey0).toArray 68 (0, 0))] w') (T := fun _ _ _ => True) (by kernel_rfl) ⟨(Turn.refl _ _).drew, held_cons (show w3.drew.heap[_]? = _ from D2.out) (held_cons (show w3.drew.heap[_]? = _ from D5.out) (held_nil _))⟩ trivial ?_
        have HG := Grow.held w3 [(g2, Obj.cells C.toArray 68 (0, 0)), (g5, Obj.cells (lkC LKey0).toArray 68 (0, 0))]
        refine atN 0 ?_
        refine anyG_y HG (v := ?_) rfl (by kernel_rfl) (fun _ _ _ h => h) (fun _ _ _ => Iff.rfl) (Or.inl ⟨by rfl, fun w hSw => ?_⟩) ?_
        rotate_left
        · skip
          first | (go_simp; done) | (go_simp; with_reducible rfl)
        simp only [Nat.reduceAdd, AP]
        refine atN 1 ?_
        refine anyG_y HG (v := ?_) rfl (by kernel_rfl) (fun _ _ _ h => h) (fun _ _ _ => Iff.rfl) (Or.inl ⟨by rfl, fun w hSw => ?_⟩) ?_
        rotate_left
        · obtain ⟨s0, s1, s2, s3, s4⟩ := HC.out _ _ hSw.2.head
          first | (go_simp; done) | (go_simp; with_reducible rfl)
        simp only [Nat.reduceAdd, AP]
        refine atN 2 ?_
        refine anyG_y HG (v := ?_) rfl (by kernel_rfl) (fun _ _ _ h => h) (fun _ _ _ => Iff.rfl) (Or.inl ⟨by rfl, fun w hSw => ?_⟩) ?_
        rotate_left
        · skip
          first | (go_simp; done) | (go_simp; with_reducible rfl)
        simp only [Nat.reduceAdd, AP]
        refine atN 3 ?_
        refine anyG_y HG (v := ?_) rfl (by kernel_rfl) (fun _ _ _ h => h) (fun _ _ _ => Iff.rfl) (Or.inl ⟨by rfl, fun w hSw => ?_⟩) ?_
        rotate_left
        · obtain ⟨s0, s1, s2, s3, s4⟩ := HC.out _ _ hSw.2.head
          first | (go_simp; done) | (go_simp; with_reducible rfl)
        simp only [Nat.reduceAdd, AP]
        refine atN 4 ?_
        iterate 3
          refine anyG_y HG (v := ?_) rfl (by kernel_rfl) (fun _ _ _ h => h) (fun _ _ _ => Iff.rfl) (Or.inl ⟨by rfl, fun w hSw => ?_⟩) ?_
          rotate_left
          · skip
            first | (go_simp; done) | (go_simp; with_reducible rfl)
          simp only [Nat.reduceAdd, AP]
        refine anyG_done (by kernel_rfl) (fun w4 hS _ => ?_) _
        obtain ⟨hpS, hS⟩ := hS
        clear HG
        have PT := Lib.hid (PT.out.pure hpS)
        have D2 := Lib.hid hS.head
        have D5 := Lib.hid hS.tail.head
        clear hS hpS
        go_wp2_with (refine wpList_store_blk rfl 68 _ _ rfl g5 _ (lkC LKey0) _ rfl rfl D5.out rfl infoLK (lkC_one _) ?_)
        intro w9 d9 t9 _
        have D5 := Lib.hid d9; have PT := Lib.hid (PT.out.trans t9 fun q hq e => by omega : Pure w w9)
        clear d9 t9
        go_wp2
        exact bodyPost_ret (v := .tuple #[.string (bstr []), .agg (lkC LKey0).toArray, .int .i64 501]) (results_tct Try.results42 _ _ g5 _ _ _ _ rfl D5.out Try.underlying68 rfl infoLK) rfl ⟨rfl, PT.out⟩
      · have hlq : q < m := Nat.lt_of_le_of_ne hqm hlt
        have hqne : ¬ ((q : Int) = (m : Int)) := by omega
        rw [if_neg hqne] at hlv
        have hway := hway hlq
        clear hqne
        have hsg := fun W => RSign_all W k.ots k.id q k.seed msg
        obtain ⟨t, htv, ht2⟩ := typeV_nat h h5
        have hty := fun W => Calls.pureEq (kindOfR_any W (h : Int) (by omega) (by omega))
        rw [htv] at hty hlv
        rw [Int.toNat_natCast] at hlv
        have hn1 := fun W => Be_anyS q 4 W (by omega) (by omega)
        have hn2 := fun W => Be_anyS t 4 W (by omega) (by omega)
        have hb1 : (beB q 4).length = 4 := beB_length _ _
        have hb2 : (beB t 4).length = 4 := beB_length _ _
        have hsl := signV_length k.ots k.id q k.seed msg
        generalize beB q 4 = b1 at *
        generalize beB t 4 = b2 at *
        generalize (signV k.ots k.id q k.seed msg).1 = sg at *
        generalize (signV k.ots k.id q k.seed msg).2 = se at *
        have hNN : ∀ i, (nodeN k.id (pubF k) m i).length = 32 := fun i => nodeN_length _ _ _ _
        generalize nodeN k.id (pubF k) m = NN at *
        obtain ⟨M, hM⟩ : ∃ M, M = 2 * m := ⟨_, rfl⟩
        rw [← hM] at htr hway
        obtain ⟨r, hr⟩ : ∃ r, r = m + q := ⟨_, rfl⟩
        rw [← hr] at hlv hway
        obtain ⟨L1, hL1⟩ : ∃ L1, L1 = sg.length := ⟨_, rfl⟩
        rw [← hL1] at hsl
        obtain ⟨A1, hA1⟩ : ∃ A1, A1 = b1 ++ sg := ⟨_, rfl⟩
        have A1l : A1.length = 4 + L1 := by rw [hA1, List.length_append]; first | rfl | omega | (simp; omega) | simp
        have aA1 : bstr b1 ++ bstr sg = bstr A1 := by rw [hA1]; exact bstr_app b1 sg
        have zA1 : (bstr A1).size = 4 + L1 := by rw [bstr_size, A1l]
        have nA1 : ¬ (9223372036854775807 < 4 + L1) := by omega
        obtain ⟨A2, hA2⟩ : ∃ A2, A2 = A1 ++ b2 := ⟨_, rfl⟩
        have A2l : A2.length = (4 + L1) + 4 := by rw [hA2, List.length_append]; first | rfl | omega | (simp; omega) | simp
        have aA2 : bstr A1 ++ bstr b2 = bstr A2 := by rw [hA2]; exact bstr_app A1 b2
        have zA2 : (bstr A2).size = (4 + L1) + 4 := by rw [bstr_size, A2l]
        have nA2 : ¬ (9223372036854775807 < (4 + L1) + 4) := by omega
        rw [← hA1, ← hA2] at hlv
        have zs : (bstr sg).size = L1 := by rw [bstr_size, hL1]
        have z1 : (bstr b1).size = 4 := by rw [bstr_size, hb1]
        have z2 : (bstr b2).size = 4 := by rw [bstr_size, hb2]
        rw [hlv]
        have d1 : ((q : Int) == (m : Int)) = false := by simp; omega
        have d1n : (q == m) = false := by simp; omega
        have hri : IntKind.i64.wrap ((m : Int) + (q : Int)) = (r : Int) := by rw [IntWalk.i64_in _ (by omega)]; omega
        have HSG := Lib.hid hsg; have HTR := Lib.hid htr; have HTY := Lib.hid hty; have HN1 := Lib.hid hn1; have HN2 := Lib.hid hn2
        have HWAY := Lib.hid hway; have HNN := Lib.hid hNN
        have HMR := Lib.hid (And.intro hM hr)
        have HA2 := Lib.hid (And.intro hA1 A2l)
        have HL5 : Hid (h ≤ 5 ∧ L1 ≤ 2180 ∧ m ≤ 32) := Lib.hid ⟨h5, hsl, hm32⟩
        obtain ⟨ots, height, id, seed, next⟩ := k
        simp only at HC hh hq HSET HSG ho
        subst hh
        subst hq
        have HSET' := Lib.hid (HSET.out ((q : Int) + 1))
        have hqi : IntKind.i64.wrap ((q : Int) + 1) = (q : Int) + 1 := IntWalk.i64_in _ (by omega)
        clear hmay hB hlv hway htr ho2 hid hseed hm HSET hsg hty hn1 hn2 hNN htv hA1 hA2 hb1 hb2 A1l A2l hlt hL1 hsl hM hr h1 h5 hqm ho
        obtain ⟨hsh1, hsh2, hsh3⟩ := HSH.out
        go_enter Try.func42, Try.ntmps42
        go_wp2_with (refine wpList_boxV rfl 68 _ rfl C rfl ?_)
        intro g2 w1 e1 c1 t1 s1
        have l2 : w.heap.size ≤ g2 := by omega
        clear e1 s1
        have D2 := Lib.hid c1; have PT := Lib.hid t1
        clear c1 t1
        go_wp2_with (refine wpList_allocZ rfl 68 rfl _ zeroLK ?_)
        intro g5 w2 e2 c2 t2 s2
        have l5 : w.heap.size ≤ g5 := by have := PT.out.size; omega
        have n25 : g5 ≠ g2 := by have := (Array.getElem?_eq_some_iff.1 D2.out).1; omega
        clear e2 s2
        have D5 := Lib.hid c2; have D2 := Lib.hid (t2.obj D2.out (fun e => e)); have PT := Lib.hid (PT.out.pure t2)
        clear c2 t2
        have R1 := range_of_row D2.out
        go_wp2_with (refine wpList_load_mid rfl 68 _ rfl g2 0 rfl C _ R1 Try.underlying68 rfl HCI.out ?_)
        clear R1
        refine (HM.out _).mono ?_
        rintro e w3 ⟨rfl, t3⟩
        have D2 := Lib.hid (t3.obj D2.out (fun e => e)); have D5 := Lib.hid (t3.obj D5.out (fun e => e)); have PT := Lib.hid (PT.out.pure t3)
        clear t3
        go_wp2_with fail
        refine wp_region_G (S := fun w' => Pure w3 w' ∧ Held [(g2, Obj.cells C.toArray 68 (0, 0)), (g5, Obj.cells (lkC LKey0).toArray 68 (0, 0))] w') (T := fun _ _ _ => True) (by kernel_rfl) ⟨(Turn.refl _ _).drew, held_cons (show w3.drew.heap[_]? = _ from D2.out) (held_cons (show w3.drew.heap[_]? = _ from D5.out) (held_nil _))⟩ trivial ?_
        have HG := Grow.held w3 [(g2, Obj.cells C.toArray 68 (0, 0)), (g5, Obj.cells (lkC LKey0).toArray 68 (0, 0))]
        refine atN 0 ?_
        refine anyG_y HG (v := ?_) rfl (by kernel_rfl) (fun _ _ _ h => h) (fun _ _ _ => Iff.rfl) (Or.inl ⟨by rfl, fun w hSw => ?_⟩) ?_
        rotate_left
        · skip
          first | (go_simp; done) | (go_simp; with_reducible rfl)
        simp only [Nat.reduceAdd, AP]
        refine atN 1 ?_
        refine anyG_y HG (v := ?_) rfl (by kernel_rfl) (fun _ _ _ h => h) (fun _ _ _ => Iff.rfl) (Or.inl ⟨by rfl, fun w hSw => ?_⟩) ?_
        rotate_left
        · obtain ⟨s0, s1, s2, s3, s4⟩ := HC.out _ _ hSw.2.head
          first | (go_simp; done) | (go_simp; with_reducible rfl)
        simp only [Nat.reduceAdd, AP]
        refine atN 2 ?_
        refine anyG_y HG (v := ?_) rfl (by kernel_rfl) (fun _ _ _ h => h) (fun _ _ _ => Iff.rfl) (Or.inl ⟨by rfl, fun w hSw => ?_⟩) ?_
        rotate_left
        · skip
          first | (go_simp; done) | (go_simp; with_reducible rfl)
        simp only [Nat.reduceAdd, AP]
        refine atN 3 ?_
        refine anyG_y HG (v := ?_) rfl (by kernel_rfl) (fun _ _ _ h => h) (fun _ _ _ => Iff.rfl) (Or.inl ⟨by rfl, fun w hSw => ?_⟩) ?_
        rotate_left
        · obtain ⟨s0, s1, s2, s3, s4⟩ := HC.out _ _ hSw.2.head
          first | (go_simp; done) | (go_simp; with_reducible rfl)
        simp only [Nat.reduceAdd, AP]
        refine atN 4 ?_
        iterate 3
          refine anyG_y HG (v := ?_) rfl (by kernel_rfl) (fun _ _ _ h => h) (fun _ _ _ => Iff.rfl) (Or.inl ⟨by rfl, fun w hSw => ?_⟩) ?_
          rotate_left
          · skip
            first | (go_simp; done) | (go_simp; with_reducible rfl)
          simp only [Nat.reduceAdd, AP]
        refine anyG_done (by kernel_rfl) (fun w4 hS _ => ?_) _
        obtain ⟨hpS, hS⟩ := hS
        clear HG
        have PT := Lib.hid (PT.out.pure hpS)
        have D2 := Lib.hid hS.head
        have D5 := Lib.hid hS.tail.head
        clear hS hpS
        obtain ⟨k0, k1, k2, k3, k4⟩ := HC.out _ _ D2.out
        go_wp2_with fail
        refine (HSG.out _).mono ?_
        rintro e w5 ⟨rfl, t5⟩
        have D2 := Lib.hid (t5.obj D2.out (fun e => e)); have D5 := Lib.hid (t5.obj D5.out (fun e => e)); have PT := Lib.hid (PT.out.pure t5)
        clear t5 k0 k1 k2 k3 k4
        go_wp2_with fail
        refine wp_region_G (S := fun w' => Pure w5 w' ∧ Held [(g2, Obj.cells C.toArray 68 (0, 0)), (g5, Obj.cells (lkC LKey0).toArray 68 (0, 0))] w') (T := fun _ _ _ => True) (by kernel_rfl) ⟨(Turn.refl _ _).drew, held_cons (show w5.drew.heap[_]? = _ from D2.out) (held_cons (show w5.drew.heap[_]? = _ from D5.out) (held_nil _))⟩ trivial ?_
        have HG := Grow.held w5 [(g2, Obj.cells C.toArray 68 (0, 0)), (g5, Obj.cells (lkC LKey0).toArray 68 (0, 0))]
        refine atN 0 ?_
        refine anyG_y HG (v := ?_) rfl (by kernel_rfl) (fun _ _ _ h => h) (fun _ _ _ => Iff.rfl) (Or.inl ⟨by rfl, fun w hSw => ?_⟩) ?_
        rotate_left
        · skip
          first | (go_simp; done) | (go_simp; with_reducible rfl)
        simp only [Nat.reduceAdd, AP]
        refine atN 1 ?_
        refine anyG_y HG (v := ?_) rfl (by kernel_rfl) (fun _ _ _ h => h) (fun _ _ _ => Iff.rfl) (Or.inl ⟨by rfl, fun w hSw => ?_⟩) ?_
        rotate_left
        · obtain ⟨s0, s1, s2, s3, s4⟩ := HC.out _ _ hSw.2.head
          first | (go_simp; done) | (go_simp; with_reducible rfl)
        simp only [Nat.reduceAdd, AP]
        refine anyG_take HG (i := 3) (v := ?_) rfl (by kernel_rfl) (by kernel_rfl) (by kernel_rfl) (fun _ _ _ h => h) (fun _ _ _ => Iff.rfl) (Or.inl ⟨by rfl, fun w hSw => ?_⟩) ?_
        rotate_left
        · skip
          first | (go_simp; done) | (go_simp; with_reducible rfl)
        simp only [AP]
        refine anyG_take HG (i := 5) (v := ?_) rfl (by kernel_rfl) (by kernel_rfl) (by kernel_rfl) (fun _ _ _ h => h) (fun _ _ _ => Iff.rfl) (Or.inl ⟨by rfl, fun w hSw => ?_⟩) ?_
        rotate_left
        · skip
          first | (go_simp; done) | (go_simp; with_reducible rfl)
        simp only [AP]
        refine anyG_take HG (i := 6) (v := ?_) rfl (by kernel_rfl) (by kernel_rfl) (by kernel_rfl) (fun _ _ _ h => h) (fun _ _ _ => Iff.rfl) (Or.inl ⟨by rfl, fun w hSw => ?_⟩) ?_
        rotate_left
        · skip
          obtain ⟨s0, s1, s2, s3, s4⟩ := HC.out _ _ hSw.2.head
          first | (go_simp; done) | (go_simp; with_reducible rfl)
        simp only [AP]
        refine anyG_call HG (i := 2) (fun w hSw => HN1.out w) rfl (by kernel_rfl) (by kernel_rfl) (by kernel_rfl) (fun _ _ _ h => h) (fun _ _ _ => Iff.rfl) (by rfl) (fun w hSw => by go_simp; first | done | with_reducible rfl) ?_
        simp only [AP]
        refine anyG_take HG (i := 4) (v := ?_) rfl (by kernel_rfl) (by kernel_rfl) (by kernel_rfl) (fun _ _ _ h => h) (fun _ _ _ => Iff.rfl) (Or.inl ⟨by rfl, fun w hSw => ?_⟩) ?_
        rotate_left
        · skip
          first | (go_simp; done) | (go_simp; with_reducible rfl)
        simp only [AP]
        refine anyG_call HG (i := 7) (fun w hSw => HTY.out w) rfl (by kernel_rfl) (by kernel_rfl) (by kernel_rfl) (fun _ _ _ h => h) (fun _ _ _ => Iff.rfl) (by rfl) (fun w hSw => by go_simp; first | done | with_reducible rfl) ?_
        simp only [AP]
        refine anyG_call HG (i := 8) (fun w hSw => HN2.out w) rfl (by kernel_rfl) (by kernel_rfl) (by kernel_rfl) (fun _ _ _ h => h) (fun _ _ _ => Iff.rfl) (by rfl) (fun w hSw => by go_simp; first | done | with_reducible rfl) ?_
        simp only [AP]
        refine anyG_take HG (i := 9) (v := ?_) rfl (by kernel_rfl) (by kernel_rfl) (by kernel_rfl) (fun _ _ _ h => h) (fun _ _ _ => Iff.rfl) (Or.inl ⟨by rfl, fun w hSw => ?_⟩) ?_
        rotate_left
        · skip
          first | (go_simp; done) | (go_simp; with_reducible rfl)
        simp only [AP]
        refine anyG_take HG (i := 10) (v := ?_) rfl (by kernel_rfl) (by kernel_rfl) (by kernel_rfl) (fun _ _ _ h => h) (fun _ _ _ => Iff.rfl) (Or.inl ⟨by rfl, fun w hSw => ?_⟩) ?_
        rotate_left
        · skip
          first | (go_simp; done) | (go_simp; with_reducible rfl)
        simp only [AP]
        refine anyG_done (by kernel_rfl) (fun w6 hS _ => ?_) _
        obtain ⟨hpS, hS⟩ := hS
        clear HG
        have PT := Lib.hid (PT.out.pure hpS)
        have D2 := Lib.hid hS.head
        have D5 := Lib.hid hS.tail.head
        clear hS hpS
        have R1 := range_of_row D2.out
        go_wp2_with (refine wpList_load_mid rfl 68 _ rfl g2 0 rfl C _ R1 Try.underlying68 rfl HCI.out ?_)
        clear R1
        refine (HTR.out _).mono ?_
        rintro e w7 ⟨rr, rfl, ⟨g, L, rfl, d3, hL, hL3, l3⟩, t7⟩
        have D2 := Lib.hid (t7.obj D2.out (fun e => e)); have D5 := Lib.hid (t7.obj D5.out (fun e => e)); have PT := Lib.hid (PT.out.pure t7); have DG := Lib.hid d3
        have HL3 := Lib.hid hL3
        clear t7 d3 hL hL3 l3
        go_wp2_with fail
        refine wp_region_G (S := fun w' => Pure w7 w' ∧ Held [(g2, Obj.cells C.toArray 68 (0, 0)), (g5, Obj.cells (lkC LKey0).toArray 68 (0, 0)), (g, Obj.cells (strsV L).toArray 9 (0, 0))] w') (T := fun _ _ _ => True) (by kernel_rfl) ⟨(Turn.refl _ _).drew, held_cons (show w7.drew.heap[_]? = _ from D2.out) (held_cons (show w7.drew.heap[_]? = _ from D5.out) (held_cons (show w7.drew.heap[_]? = _ from DG.out) (held_nil _)))⟩ trivial ?_
        have HG := Grow.held w7 [(g2, Obj.cells C.toArray 68 (0, 0)), (g5, Obj.cells (lkC LKey0).toArray 68 (0, 0)), (g, Obj.cells (strsV L).toArray 9 (0, 0))]
        refine atN 0 ?_
        refine anyG_y HG (v := ?_) rfl (by kernel_rfl) (fun _ _ _ h => h) (fun _ _ _ => Iff.rfl) (Or.inl ⟨by rfl, fun w hSw => ?_⟩) ?_
        rotate_left
        · skip
          first | (go_simp; done) | (go_simp; with_reducible rfl)
        simp only [Nat.reduceAdd, AP]
        refine atN 1 ?_
        refine anyG_y HG (v := ?_) rfl (by kernel_rfl) (fun _ _ _ h => h) (fun _ _ _ => Iff.rfl) (Or.inl ⟨by rfl, fun w hSw => ?_⟩) ?_
        rotate_left
        · obtain ⟨s0, s1, s2, s3, s4⟩ := HC.out _ _ hSw.2.head
          first | (go_simp; done) | (go_simp; with_reducible rfl)
        simp only [Nat.reduceAdd, AP]
        refine atN 2 ?_
        iterate 2
          refine anyG_y HG (v := ?_) rfl (by kernel_rfl) (fun _ _ _ h => h) (fun _ _ _ => Iff.rfl) (Or.inl ⟨by rfl, fun w hSw => ?_⟩) ?_
          rotate_left
          · skip
            first | (go_simp; done) | (go_simp; with_reducible rfl)
          simp only [Nat.reduceAdd, AP]
        refine atN 4 ?_
        refine anyG_y HG (v := ?_) rfl (by kernel_rfl) (fun _ _ _ h => h) (fun _ _ _ => Iff.rfl) (Or.inl ⟨by rfl, fun w hSw => ?_⟩) ?_
        rotate_left
        · obtain ⟨s0, s1, s2, s3, s4⟩ := HC.out _ _ hSw.2.head
          first | (go_simp; done) | (go_simp; with_reducible rfl)
        simp only [Nat.reduceAdd, AP]
        refine atN 5 ?_
        iterate 2
          refine anyG_y HG (v := ?_) rfl (by kernel_rfl) (fun _ _ _ h => h) (fun _ _ _ => Iff.rfl) (Or.inl ⟨by rfl, fun w hSw => ?_⟩) ?_
          rotate_left
          · skip
            first | (go_simp; done) | (go_simp; with_reducible rfl)
          simp only [Nat.reduceAdd, AP]
        refine anyG_done (by kernel_rfl) (fun w8 hS _ => ?_) _
        obtain ⟨hpS, hS⟩ := hS
        clear HG
        have PT := Lib.hid (PT.out.pure hpS)
        have D2 := Lib.hid hS.head
        have D5 := Lib.hid hS.tail.head
        have DG := Lib.hid hS.tail.tail.head
        clear hS hpS
        go_wp2_with fail
        clear hsh1 hsh2 hsh3
        go_loopw [9, 11] (fun o i wr => ∃ j : Nat, j ≤ h ∧ i = .int .i64 ((r / 2 ^ j : Nat) : Int) ∧ o = .string (bstr (A2 ++ sideV NN r j)) ∧ wr = w8) (fun _ i _ => (intOf i).toNat)
        case atStart => exact ⟨0, Nat.zero_le _, by rw [Nat.pow_zero, Nat.div_one], by rw [sideV, List.append_nil], rfl⟩
        case round =>
          obtain ⟨j, hj, rfl, rfl, rfl⟩ := hrel
          by_cases hlt : j < h
          · obtain ⟨x, hx, hx0, hxM⟩ := HWAY.out.next j hlt
            obtain ⟨y1, y2⟩ := HWAY.out.low j hlt
            have hxi := xor1_int (r := r / 2 ^ j) (by have := HWAY.out.big; omega)
            rw [← hx] at hxi
            have cx := strs_cell (HL3.out x hx0 hxM) DG.out
            have hnx := HNN.out x
            have HX := Lib.hid hx
            have HDV : Hid (r / 2 ^ j / 2 = r / 2 ^ (j + 1)) := Lib.hid (by rw [Nat.div_div_eq_div_mul, Nat.pow_succ])
            have hsx : A2 ++ sideV NN r (j + 1) = (A2 ++ sideV NN r j) ++ NN x := by rw [sideV, List.append_assoc, hx]
            have hBl0 : (A2 ++ sideV NN r j).length ≤ 3000 := by rw [List.length_append, HA2.out.2, sideV_length HNN.out]; have := HL5.out; omega
            generalize r / 2 ^ j = rj at *
            generalize NN x = Nx at *
            obtain ⟨Bt, hBt⟩ : ∃ Bt, Bt = A2 ++ sideV NN r j := ⟨_, rfl⟩
            rw [← hBt] at hsx hBl0 ⊢
            obtain ⟨lB, hlB⟩ : ∃ lB, lB = Bt.length := ⟨_, rfl⟩
            rw [← hlB] at hBl0
            obtain ⟨A5, hA5⟩ : ∃ A5, A5 = Bt ++ Nx := ⟨_, rfl⟩
            have A5l : A5.length = lB + 32 := by rw [hA5, List.length_append]; first | rfl | omega | (simp; omega) | simp
            have aA5 : bstr Bt ++ bstr Nx = bstr A5 := by rw [hA5]; exact bstr_app Bt Nx
            have zA5 : (bstr A5).size = lB + 32 := by rw [bstr_size, A5l]
            have nA5 : ¬ (9223372036854775807 < lB + 32) := by omega
            have zB : (bstr Bt).size = lB := by rw [bstr_size, hlB]
            have zx : (bstr Nx).size = 32 := by rw [bstr_size, hnx]
            rw [← hA5] at hsx
            have HSX := Lib.hid hsx
            clear hx hsx hBt hlB hA5 A5l
            have q1 : decide ((1 : Int) < (rj : Int)) = true := decide_eq_true (by omega)
            have q1n : decide (1 < rj) = true := decide_eq_true (by omega)
            have q1p : (1 : Int) < rj := by omega
            have xM : (x : Int) < M := by omega
            have x0 : (0 : Int) ≤ x := by omega
            have y3 : (rj : Int) ≤ 64 := by have := HWAY.out.big; omega
            go_wp2
            have e1 : ((rj : Int) / 2) = ((r / 2 ^ (j + 1) : Nat) : Int) := by rw [← HDV.out]; omega
            exact ⟨⟨j + 1, by omega, by rw [e1], by rw [HSX.out], trivial⟩, by simp [intOf]; omega⟩
          · obtain rfl : j = h := by omega
            rw [HWAY.out.top]
            obtain ⟨k0, k1, k2, k3, k4⟩ := HC.out _ _ D2.out
            have fz : wr.frozen? ⟨g2, 4, none⟩ = false := frozen_of_row wr g2 4 _ _ D2.out
            obtain ⟨d2, t2, _⟩ := setAt (i := 4) (v := .int .i64 ((q : Int) + 1)) D2.out (by rw [HCL.out]; omega)
            rw [HSET'.out] at d2
            have E2 := Lib.hid d2; have E5 := Lib.hid (t2.obj D5.out n25)
            have EP := Lib.hid (PT.out.trans t2 fun q hq e => by omega : Pure w _)
            clear d2 t2
            go_wp2_with fail
            generalize wr.setCell ⟨g2, 4, none⟩ (.int .i64 ((q : Int) + 1)) = W4 at *
            clear k0 k1 k2 k3 k4 fz
            obtain ⟨k', hk'⟩ : ∃ k' : LKey, k' = { ots := ots, height := (j : Int), id := id, seed := seed, next := (q : Int) + 1 } := ⟨_, rfl⟩
            rw [← hk'] at E2
            have HKk := Lib.hid hk'
            clear hk' HSET'
            obtain ⟨St, hSt⟩ : ∃ St, St = A2 ++ sideV NN r j := ⟨_, rfl⟩
            have HSt := Lib.hid hSt
            rw [← hSt]
            clear hSt
            refine wp_region_G (S := fun w' => Pure W4 w' ∧ Held [(g2, Obj.cells (lkC k').toArray 68 (0, 0)), (g5, Obj.cells (lkC LKey0).toArray 68 (0, 0))] w') (T := fun _ _ _ => True) (by kernel_rfl) ⟨(Turn.refl _ _).drew, held_cons (show W4.drew.heap[_]? = _ from E2.out) (held_cons (show W4.drew.heap[_]? = _ from E5.out) (held_nil _))⟩ trivial ?_
            have HG := Grow.held W4 [(g2, Obj.cells (lkC k').toArray 68 (0, 0)), (g5, Obj.cells (lkC LKey0).toArray 68 (0, 0))]
            refine atN 0 ?_
            refine anyG_y HG (v := ?_) rfl (by kernel_rfl) (fun _ _ _ h => h) (fun _ _ _ => Iff.rfl) (Or.inl ⟨by rfl, fun w hSw => ?_⟩) ?_
            rotate_left
            · skip
              first | (go_simp; done) | (go_simp; with_reducible rfl)
            simp only [Nat.reduceAdd, AP]
            refine anyG_take HG (i := 1) (v := Value.agg (lkC k').toArray) rfl (by kernel_rfl) (by kernel_rfl) (by kernel_rfl) (fun _ _ _ h => h) (fun _ _ _ => Iff.rfl) (yieldsIf_load_mid (by rfl) 68 _ rfl g2 0 rfl (lkC k') _ (fun w hSw => range_of_row hSw.2.head) Try.underlying68 rfl infoLK) ?_
            simp only [AP]
            refine atN 2 ?_
            refine anyG_y HG (v := ?_) rfl (by kernel_rfl) (fun _ _ _ h => h) (fun _ _ _ => Iff.rfl) (Or.inl ⟨by rfl, fun w hSw => ?_⟩) ?_
            rotate_left
            · skip
              first | (go_simp; done) | (go_simp; with_reducible rfl)
            simp only [Nat.reduceAdd, AP]
            refine anyG_tail [3, 4] (k := 3) (by kernel_rfl) (fun w11 hS _ => ?_)
            simp only [List.filterMap_cons, List.filterMap_nil, List.getElem?_toArray, List.getElem?_cons_succ, List.getElem?_cons_zero]
            obtain ⟨hpS, hS⟩ := hS
            clear HG
            have EP := Lib.hid (EP.out.pure hpS)
            have F2 := Lib.hid hS.head
            have F5 := Lib.hid hS.tail.head
            clear hS hpS
            refine wpList_store_blk rfl 68 _ _ rfl g5 _ (lkC k') _ rfl rfl F5.out rfl infoLK (lkC_one _) ?_
            intro w9 d9 t9 _
            have G5 := Lib.hid d9
            have GP := Lib.hid (EP.out.trans t9 fun q hq e => by omega : Pure w w9)
            clear d9 t9
            go_wp2
            exact bodyPost_ret (v := .tuple #[.string (bstr St), .agg (lkC k').toArray, .int .i64 0]) (results_tct Try.results42 _ _ g5 _ _ _ _ rfl G5.out Try.underlying68 rfl infoLK) rfl ⟨by rw [HSt.out, HKk.out], GP.out⟩
    · rw [if_neg (fun h => hm h.2)] at hlv
      rw [hlv]
      have HM := Lib.hid hmay
      have HSH : Hid (True ∧ True ∧ True) := Lib.hid ⟨trivial, trivial, trivial⟩
      have d0 : decide ((65536 : Int) < n) = true := decide_eq_true (by omega)
      have d0n : decide (65536 < n) = true := decide_eq_true (by omega)
      clear hmay hB hlv hm HSET htree'
      obtain ⟨hsh1, hsh2, hsh3⟩ := HSH.out
      go_enter Try.func42, Try.ntmps42
      go_wp2_with (refine wpList_boxV rfl 68 _ rfl C rfl ?_)
      intro g2 w1 e1 c1 t1 s1
      have l2 : w.heap.size ≤ g2 := by omega
      clear e1 s1
      have D2 := Lib.hid c1; have PT := Lib.hid t1
      clear c1 t1
      go_wp2_with (refine wpList_allocZ rfl 68 rfl _ zeroLK ?_)
      intro g5 w2 e2 c2 t2 s2
      have l5 : w.heap.size ≤ g5 := by have := PT.out.size; omega
      have n25 : g5 ≠ g2 := by have := (Array.getElem?_eq_some_iff.1 D2.out).1; omega
      clear e2 s2
      have D5 := Lib.hid c2; have D2 := Lib.hid (t2.obj D2.out (fun e => e)); have PT := Lib.hid (PT.out.pure t2)
      clear c2 t2
      have R1 := range_of_row D2.out
      go_wp2_with (refine wpList_load_mid rfl 68 _ rfl g2 0 rfl C _ R1 Try.underlying68 rfl HCI.out ?_)
      clear R1
      refine (HM.out _).mono ?_
      rintro e w3 ⟨rfl, t3⟩
      have D2 := Lib.hid (t3.obj D2.out (fun e => e)); have D5 := Lib.hid (t3.obj D5.out (fun e => e)); have PT := Lib.hid (PT.out.pure t3)
      clear t3
      go_wp2_with (refine wpList_store_blk rfl 68 _ _ rfl g5 _ (lkC LKey0) _ rfl rfl D5.out rfl infoLK (lkC_one _) ?_)
      intro w9 d9 t9 _
      have D5 := Lib.hid d9; have PT := Lib.hid (PT.out.trans t9 fun q hq e => by omega : Pure w w9)
      clear d9 t9
      go_wp2
      exact bodyPost_ret (v := .tuple #[.string (bstr []), .agg (lkC LKey0).toArray, .int .i64 500]) (results_tct Try.results42 _ _ g5 _ _ _ _ rfl D5.out Try.underlying68 rfl infoLK) rfl ⟨rfl, PT.out⟩
  · rw [if_neg (fun h => hB h.1)] at hlv
    rw [hlv]
    have hB2 : lmayB k = false := by simpa using hB
    rw [hB2] at hmay
    have HM := Lib.hid hmay
    have HSH : Hid (True ∧ True ∧ True) := Lib.hid ⟨trivial, trivial, trivial⟩
    clear hmay hB hB2 hlv HSET htree'
    obtain ⟨hsh1, hsh2, hsh3⟩ := HSH.out
    go_enter Try.func42, Try.ntmps42
    go_wp2_with (refine wpList_boxV rfl 68 _ rfl C rfl ?_)
    intro g2 w1 e1 c1 t1 s1
    have l2 : w.heap.size ≤ g2 := by omega
    clear e1 s1
    have D2 := Lib.hid c1; have PT := Lib.hid t1
    clear c1 t1
    go_wp2_with (refine wpList_allocZ rfl 68 rfl _ zeroLK ?_)
    intro g5 w2 e2 c2 t2 s2
    have l5 : w.heap.size ≤ g5 := by have := PT.out.size; omega
    have n25 : g5 ≠ g2 := by have := (Array.getElem?_eq_some_iff.1 D2.out).1; omega
    clear e2 s2
    have D5 := Lib.hid c2; have D2 := Lib.hid (t2.obj D2.out (fun e => e)); have PT := Lib.hid (PT.out.pure t2)
    clear c2 t2
    have R1 := range_of_row D2.out
    go_wp2_with (refine wpList_load_mid rfl 68 _ rfl g2 0 rfl C _ R1 Try.underlying68 rfl HCI.out ?_)
    clear R1
    refine (HM.out _).mono ?_
    rintro e w3 ⟨rfl, t3⟩
    have D2 := Lib.hid (t3.obj D2.out (fun e => e)); have D5 := Lib.hid (t3.obj D5.out (fun e => e)); have PT := Lib.hid (PT.out.pure t3)
    clear t3
    go_wp2_with (refine wpList_store_blk rfl 68 _ _ rfl g5 _ (lkC LKey0) _ rfl rfl D5.out rfl infoLK (lkC_one _) ?_)
    intro w9 d9 t9 _
    have D5 := Lib.hid d9; have PT := Lib.hid (PT.out.trans t9 fun q hq e => by omega : Pure w w9)
    clear d9 t9
    go_wp2
    exact bodyPost_ret (v := .tuple #[.string (bstr []), .agg (lkC LKey0).toArray, .int .i64 500]) (results_tct Try.results42 _ _ g5 _ _ _ _ rfl D5.out Try.underlying68 rfl infoLK) rfl ⟨rfl, PT.out⟩
end Go.Proofs.Ytcfbmbhkdicpfaa
