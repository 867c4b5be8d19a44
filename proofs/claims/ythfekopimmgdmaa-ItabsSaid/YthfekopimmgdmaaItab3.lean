/- Chapter 14: a table is written. -/
import Derived.Test.YthfekopimmgdmaaItab2
namespace Go.Proofs.Ythfekopimmgdmaa
open Go.RowKit

/-- A writer that was made behind w0; block K is none of its own. -/
def OwnK (T : TypeId) (w0 w : World) (g : Nat) (bs : List UInt8) (K : Nat) : Prop := ∃ v, IsWr T w g v bs ∧ (∀ k, WrB g v k → w0.heap.size ≤ k ∧ k ≠ K) ∧ Pure w0 w
theorem OwnW.keep {T : TypeId} {w0 w w' : World} {g K : Nat} {bs : List UInt8} (h : OwnW T w0 w g bs) (ht : Pure w w') (hK : w.heap.size ≤ K) : OwnK T w0 w' g bs K := by
  obtain ⟨v, h1, h2, h3⟩ := h
  exact ⟨v, h1.turn ht (fun _ _ e => e), fun k hk => ⟨h2 k hk, by have := h1.blk k hk; omega⟩, h3.pure ht⟩
theorem OwnK.own {T : TypeId} {w0 w : World} {g K : Nat} {bs : List UInt8} (h : OwnK T w0 w g bs K) : OwnW T w0 w g bs := by
  obtain ⟨v, h1, h2, h3⟩ := h
  exact ⟨v, h1, fun k hk => (h2 k hk).1, h3⟩
theorem OwnK.wrote {T : TypeId} {w0 w w' : World} {g K : Nat} {v : Value} {bs : List UInt8} (h2 : ∀ k, WrB g v k → w0.heap.size ≤ k ∧ k ≠ K) (h3 : Pure w0 w) (hK : K < w.heap.size) (hw : Wrote T w w' g v bs) : OwnK T w0 w' g bs K ∧ ∀ ob, w.heap[K]? = some ob → w'.heap[K]? = some ob := by
  obtain ⟨⟨v', h1, hb⟩, ht⟩ := hw
  refine ⟨⟨v', h1, ?_, h3.trans ht fun i hi e => by have := (h2 i e).1; omega⟩, fun ob ho => ht.obj ho fun e => (h2 K e).2 rfl⟩
  rintro k (rfl | e)
  · exact h2 k (.inl rfl)
  · rcases hb with f | f
    · exact h2 k (.inr (by rw [← f]; exact e))
    · have := f k e
      exact ⟨Nat.le_trans h3.size this, by omega⟩
theorem WNum_k {w0 w : World} {g K : Nat} {bs : List UInt8} (x s : Int) (h : OwnK 112 w0 w g bs K) (hK : K < w.heap.size) :
    Calls Try.prog 29 #[.pointer (some ⟨g, 0, none⟩), .int .i64 x, .int .i64 s] w fun e w' =>
      e = .returned (.int .i64 (wrNum bs x s).1) ∧ OwnK 112 w0 w' g (wrNum bs x s).2 K ∧ ∀ ob, w.heap[K]? = some ob → w'.heap[K]? = some ob := by
  obtain ⟨v, h1, h2, h3⟩ := h
  exact (WNum_any w g v bs x s h1).mono fun e w' ⟨he, hw⟩ => ⟨he, OwnK.wrote h2 h3 hK hw⟩
theorem WHash_k {w0 w : World} {g K : Nat} {bs : List UInt8} (t : List UInt8) (h : OwnK 112 w0 w g bs K) (ht : t.length = 32) (hK : K < w.heap.size) :
    Calls Try.prog 30 #[.pointer (some ⟨g, 0, none⟩), hv t] w fun e w' =>
      e = .returned (.int .i64 (wrPut bs t).1) ∧ OwnK 112 w0 w' g (wrPut bs t).2 K ∧ ∀ ob, w.heap[K]? = some ob → w'.heap[K]? = some ob := by
  obtain ⟨v, h1, h2, h3⟩ := h
  exact (WHash_any w g v bs t h1 ht).mono fun e w' ⟨he, hw⟩ => ⟨he, OwnK.wrote h2 h3 hK hw⟩
theorem wrNum_fit {bs : List UInt8} {x n : Nat} (hn : n = 1 ∨ n = 2 ∨ n = 4) (hx : x < 256 ^ n) (hl : bs.length ≤ 60000) : wrNum bs (x : Int) (n : Int) = (0, bs ++ beB x n) := by
  have hf : fitsB (x : Int) (n : Int) = true := by
    simp only [fitsB, Bool.and_eq_true, decide_eq_true_eq, Int.toNat_natCast]
    refine ⟨⟨by rcases hn with rfl | rfl | rfl <;> rfl, by omega⟩, ?_⟩
    have : ((256 ^ n : Nat) : Int) = (256 : Int) ^ n := by rw [Int.natCast_pow]; rfl
    rw [← this]; omega
  rw [wrNum, if_pos hf, Int.toNat_natCast, Int.toNat_natCast, wrPut, if_pos (by rw [beB_length]; omega)]
theorem wrPut_fit {bs q : List UInt8} (hl : bs.length ≤ 60000) (hq : q.length ≤ 1000) : wrPut bs q = (0, bs ++ q) := by rw [wrPut, if_pos (by omega)]
theorem zeroN : ∃ Z : List Value, Z.length = 37 ∧ Hid ((Try.prog.info? 41).bind (·.zero) = some (.agg Z.toArray)) := ⟨inoC ⟨0, 0, 0, 0, 0, List.replicate 32 0⟩, rfl, Lib.hid (by kernel_rfl)⟩
theorem flat_take {xs : List Ino} {j : Nat} (h : j < xs.length) : (xs.take (j + 1)).flatMap inoE = (xs.take j).flatMap inoE ++ inoE xs[j] := by
  rw [List.take_add_one, List.getElem?_eq_getElem h, List.flatMap_append]; simp
theorem tabB_mem {xs : List Ino} (h : tabB xs = true) : ∀ x ∈ xs, inoB x = true := by
  simp only [tabB, Bool.and_eq_true, List.all_eq_true] at h
  exact h.1

/-- One of four numbers. -/
theorem ix4 (w : World) (vs : List Int) (k : Nat) (hl : vs.length = 4) (hk : k < 4) : (Instr.index 66 (.agg (vs.map (Value.int .i64)).toArray) (.int .i64 (k : Int))).run Try.prog w = .ok (.int .i64 (vs.getD k 0)) w := by
  have h2 : k < vs.length := by omega
  simp [Instr.index, run_underlying Try.underlying66, run_underlying Try.underlying3, asIntOf, part, isAgg, h2, hk]

set_option maxRecDepth 100000 in
set_option maxHeartbeats 4000000 in
theorem Put_any (w : World) (V : Value) (xs : List Ino) (h : Rows inoC 37 w V xs) (hr : ∀ x ∈ xs, x.root.length = 32) (hlen : xs.length ≤ 4611686018427387904) :
    Calls Try.prog 10 #[V] w fun e w' => e = .returned (.tuple #[.string (bstr (putT xs).1), .int .i64 (putT xs).2]) ∧ Pure w w' := by
  have hm := May_any w V xs h hr hlen
  cases hb : tabB xs with
  | false =>
    rw [putT, if_neg (by rw [hb]; decide)]
    rw [hb] at hm
    obtain ⟨ao, cap, rfl, _⟩ := h
    have HM := Lib.hid hm
    clear hm
    go_enter Try.func10, Try.ntmps10
    go_wp2_with fail
    refine (HM.out).mono ?_
    rintro e w1 ⟨rfl, t1⟩
    have HP := Lib.hid t1
    clear t1
    go_wp2
    go_ret2
    exact ⟨rfl, HP.out⟩
  | true =>
    rw [putT, if_pos hb]
    rw [hb] at hm
    have hle := tabB_le hb
    have hib := tabB_mem hb
    have HROW := Lib.hid h
    obtain ⟨ao, cap, rfl, h2, h3, h4⟩ := h
    obtain ⟨Z, hZl, HZ⟩ := zeroN
    obtain ⟨HD, hHD⟩ : ∃ HD, HD = [84] ++ beB xs.length 1 := ⟨_, rfl⟩
    have hHDl : HD.length = 2 := by rw [hHD]; rfl
    have hT : tabE xs = HD ++ (xs.take xs.length).flatMap inoE := by rw [tabE, hHD, List.take_length]
    have hw1 : wrNum [] 84 1 = (0, [84]) := wrNum_fit (bs := []) (x := 84) (n := 1) (.inl rfl) (by decide) (by decide)
    have hw2 : wrNum [84] (xs.length : Int) 1 = (0, HD) := by rw [hHD]; exact wrNum_fit (bs := [84]) (x := xs.length) (n := 1) (.inl rfl) (by omega) (by decide)
    have HM := Lib.hid hm; have H3 := Lib.hid h3; have H4 := Lib.hid h4; have HR := Lib.hid hr; have HIB := Lib.hid hib; have HT := Lib.hid hT; have HW1 := Lib.hid hw1; have HW2 := Lib.hid hw2
    clear hm h3 h4 hr hib hT hw1 hw2 hHD hb
    obtain ⟨n, hn⟩ : ∃ n, n = xs.length := ⟨_, rfl⟩
    go_enter Try.func10, Try.ntmps10
    go_wp2_with fail
    refine (HM.out).mono ?_
    rintro e w1 ⟨rfl, t1⟩
    have HP := Lib.hid t1
    clear t1 HM
    go_wp2_with fail
    refine (New_own HP.out).mono ?_
    rintro e w2 ⟨rfl, o2⟩
    generalize w1.heap.size = g at *
    go_wp2_with fail
    refine (WNum_own 84 1 o2).mono ?_
    rintro e w3 ⟨rfl, o3⟩
    rw [HW1.out] at o3 ⊢
    clear o2
    go_wp2_with fail
    refine (WNum_own (xs.length : Int) 1 o3).mono ?_
    rintro e w4 ⟨rfl, o4⟩
    rw [HW2.out] at o4 ⊢
    have HO := Lib.hid o4
    clear o3 o4 HW1 HW2 HP
    go_wp2
    go_loopw [21] (fun i wr => ∃ j : Nat, j ≤ xs.length ∧ i = .int .i64 (j : Int) ∧ Hid (OwnW 112 w wr g (HD ++ (xs.take j).flatMap inoE))) (fun i _ => xs.length - (intOf i).toNat)
    case atStart => exact ⟨0, by omega, rfl, Lib.hid (by rw [List.take_zero, List.flatMap_nil, List.append_nil]; exact HO.out)⟩
    case round =>
      obtain ⟨j, hj, rfl, HO⟩ := hrel
      by_cases hlt : j < xs.length
      · have hne : xs ≠ [] := fun e => by rw [e] at hlt; simp at hlt
        obtain ⟨b, o, rfl, hrg⟩ := H3.out hne
        have r2 := HO.out.pure.range (rowOf_at xs o j xs[j] (by simp [hlt]) hrg H4.out) (fun e => e)
        have x2 : (xs[j]).root.length = 32 := HR.out _ (List.getElem_mem hlt)
        have hxb := HIB.out _ (List.getElem_mem hlt)
        have hft := flat_take hlt
        have hfl : ((xs.take j).flatMap inoE).length = 38 * j := by
          rw [flat_length fun y hy => HR.out y (List.mem_of_mem_take hy), List.length_take]
          omega
        generalize xs[j] = X2 at r2 x2 hxb hft
        obtain ⟨B, hB⟩ : ∃ B, B = HD ++ (xs.take j).flatMap inoE := ⟨_, rfl⟩
        have hBl : B.length ≤ 2000 := by rw [hB, List.length_append, hfl, hHDl]; omega
        have hBn : HD ++ (xs.take (j + 1)).flatMap inoE = B ++ inoE X2 := by rw [hft, hB, List.append_assoc]
        rw [← hB] at HO
        obtain ⟨an, ak, am, al, az, e1, e2, e3, e4, e5, b1, b2, b3, b4, b5⟩ := inoB_parts hxb
        have hC := inoC_length x2
        have hEx : inoE X2 = beB an 1 ++ beB ak 1 ++ beB am 1 ++ beB al 1 ++ beB az 2 ++ X2.root := by rw [inoE, e1, e2, e3, e4, e5]; rfl
        have hcell : ∀ (W : World) G, W.heap[G]? = some (.cells (inoC X2).toArray 41 (0, 0)) → (W.cell? ⟨G, 0, none⟩ = some (.int .i64 (an : Int)) ∧ W.cell? ⟨G, 1, none⟩ = some (.int .i64 (ak : Int)) ∧ W.cell? ⟨G, 2, none⟩ = some (.int .i64 (am : Int)) ∧ W.cell? ⟨G, 3, none⟩ = some (.int .i64 (al : Int))) ∧ W.cell? ⟨G, 4, none⟩ = some (.int .i64 (az : Int)) ∧ W.rangeAt G 5 (u8s X2.root) := fun W G hg => by
          have c := ino_cell (range_of_row hg)
          have r := ino_root (range_of_row hg)
          rw [← e1, ← e2, ← e3, ← e4, ← e5]
          simp only [Nat.zero_add] at c r
          exact ⟨⟨c.1, c.2.1, c.2.2.1, c.2.2.2.1⟩, c.2.2.2.2, r⟩
        have v1 : ∀ bs : List UInt8, bs.length ≤ 60000 → wrNum bs (an : Int) 1 = (0, bs ++ beB an 1) := fun bs hl => wrNum_fit (n := 1) (.inl rfl) (by omega) hl
        have v2 : ∀ bs : List UInt8, bs.length ≤ 60000 → wrNum bs (ak : Int) 1 = (0, bs ++ beB ak 1) := fun bs hl => wrNum_fit (n := 1) (.inl rfl) (by omega) hl
        have v3 : ∀ bs : List UInt8, bs.length ≤ 60000 → wrNum bs (am : Int) 1 = (0, bs ++ beB am 1) := fun bs hl => wrNum_fit (n := 1) (.inl rfl) (by omega) hl
        have v4 : ∀ bs : List UInt8, bs.length ≤ 60000 → wrNum bs (al : Int) 1 = (0, bs ++ beB al 1) := fun bs hl => wrNum_fit (n := 1) (.inl rfl) (by omega) hl
        have v5 : ∀ bs : List UInt8, bs.length ≤ 60000 → wrNum bs (az : Int) 2 = (0, bs ++ beB az 2) := fun bs hl => wrNum_fit (n := 2) (.inr (.inl rfl)) (by omega) hl
        have V1 := Lib.hid (And.intro v1 v2); have V2 := Lib.hid (And.intro v3 v4); have V5 := Lib.hid v5; have HCE := Lib.hid hcell; have HEX := Lib.hid hEx; have HBN := Lib.hid hBn
        have q0 : (0 : Int) ≤ j := by omega
        have q1 : (j : Int) < xs.length := by omega
        have i3 : IntKind.i64.wrap ((j : Int) + 1) = ((j + 1 : Nat) : Int) := by rw [IntWalk.i64_in _ (by omega)]; omega
        have R2 := Lib.hid r2
        clear v1 v2 v3 v4 v5 hcell hEx hBn hB hft hfl hrg r2 e1 e2 e3 e4 e5 hxb
        have HONE := inoC_one X2
        generalize inoC X2 = C at *
        go_wp2_with (first | (refine wpList_load_mid rfl 41 _ rfl b (o + j * 37) rfl C _ R2.out Try.underlying41 rfl (by rw [infoN, hC]) ?_) | (refine wpList_allocZ rfl 41 rfl Z HZ.out ?_))
        intro g6 w5 e5 c5 t5 s5
        have l6 : wr.heap.size ≤ g6 := by omega
        clear s5 e5
        go_wp2_with (refine wpList_store_blk rfl 41 _ _ rfl g6 _ C _ rfl rfl c5 (by simp [hZl, hC]) (by rw [infoN, hC]) HONE ?_)
        intro w6 c6 t6 s6
        have hp6 : Pure wr w6 := t5.trans t6 fun q hq e => by omega
        have OK := Lib.hid (HO.out.keep hp6 l6)
        have D6 := Lib.hid c6
        obtain ⟨⟨k0, k1, k2, k3⟩, _, _⟩ := HCE.out _ _ c6
        clear c5 t5 c6 t6 s6 hp6 R2 HO
        go_wp2
        clear k0 k1 k2 k3
        go_loopw [34] (fun i wr => ∃ k : Nat, k ≤ 4 ∧ i = .int .i64 (k : Int) ∧ Hid (OwnK 112 w wr g (B ++ ((([an, ak, am, al] : List Nat).take k).flatMap fun a => beB a 1)) g6) ∧ Hid (wr.heap[g6]? = some (.cells C.toArray 41 (0, 0)))) (fun i _ => 4 - (intOf i).toNat)
        case atStart => exact ⟨0, by omega, rfl, Lib.hid (by simpa using OK.out), D6⟩
        case round =>
          obtain ⟨k, hk, rfl, OK, D6⟩ := hrel
          have hK6 := (Array.getElem?_eq_some_iff.1 D6.out).1
          rcases (by omega : k = 4 ∨ k = 0 ∨ k = 1 ∨ k = 2 ∨ k = 3) with rfl | rfl | rfl | rfl | rfl
          · have hk4 : B ++ ((([an, ak, am, al] : List Nat).take 4).flatMap fun a => beB a 1) = B ++ (beB an 1 ++ beB ak 1 ++ beB am 1 ++ beB al 1) := by simp
            rw [hk4] at OK
            have hl4 : (B ++ (beB an 1 ++ beB ak 1 ++ beB am 1 ++ beB al 1)).length ≤ 3000 := by simp [beB_length]; omega
            have hend : B ++ (beB an 1 ++ beB ak 1 ++ beB am 1 ++ beB al 1) ++ beB az 2 ++ X2.root = B ++ inoE X2 := by rw [HEX.out]; simp
            obtain ⟨E4, hE4⟩ : ∃ E4, E4 = B ++ (beB an 1 ++ beB ak 1 ++ beB am 1 ++ beB al 1) := ⟨_, rfl⟩
            rw [← hE4] at OK hl4 hend
            obtain ⟨E5, hE5⟩ : ∃ E5, E5 = E4 ++ beB az 2 := ⟨_, rfl⟩
            have hl5 : E5.length ≤ 4000 := by rw [hE5, List.length_append, beB_length]; omega
            have hv5 := V5.out E4 (by omega)
            rw [← hE5] at hv5 hend
            have hv6 := wrPut_fit (bs := E5) (q := X2.root) (by omega) (by omega)
            rw [hend, ← HBN.out] at hv6
            have HV5 := Lib.hid hv5; have HV6 := Lib.hid hv6
            clear hv5 hv6 hend hE4 hE5 hk4
            obtain ⟨_, k4, _⟩ := HCE.out _ _ D6.out
            go_wp2_with fail
            refine (WNum_k (az : Int) 2 OK.out hK6).mono ?_
            rintro e w7 ⟨rfl, o7, d7⟩
            rw [HV5.out] at o7 ⊢
            have D7 := Lib.hid (d7 _ D6.out)
            have OK7 := Lib.hid o7
            have hK7 := (Array.getElem?_eq_some_iff.1 D7.out).1
            obtain ⟨_, _, r5⟩ := HCE.out _ _ D7.out
            have R5 := Lib.hid r5
            clear o7 d7 OK D6 k4 r5 hK6
            go_wp2_with (refine wpList_load_mid rfl 39 _ rfl g6 5 rfl (u8s X2.root) _ R5.out Try.underlying39 rfl (info28_l x2) ?_)
            refine (WHash_k X2.root OK7.out x2 hK7).mono ?_
            rintro e w8 ⟨rfl, o8, d8⟩
            rw [HV6.out] at o8 ⊢
            have OO := Lib.hid o8.own
            clear o8 d8
            go_wp2
            exact ⟨⟨j + 1, by omega, by first | rfl | trivial | go_num, OO⟩, by simp [intOf]; omega⟩
          · obtain ⟨E, hE⟩ : ∃ E, E = B ++ ((([an, ak, am, al] : List Nat).take 0).flatMap fun a => beB a 1) := ⟨_, rfl⟩
            have hEl : E.length ≤ 3000 := by rw [hE]; simp; omega
            have hEn : E ++ beB an 1 = B ++ ((([an, ak, am, al] : List Nat).take 1).flatMap fun a => beB a 1) := by rw [hE]; simp
            rw [← hE] at OK
            have hv := V1.out.1 E (by omega)
            have hix : ∀ W : World, (Instr.index 66 (.agg #[.int .i64 (an : Int), .int .i64 (ak : Int), .int .i64 (am : Int), .int .i64 (al : Int)]) (.int .i64 0)).run Try.prog W = .ok (.int .i64 (an : Int)) W := fun W => ix4 W [(an : Int), (ak : Int), (am : Int), (al : Int)] 0 rfl (by decide)
            rw [hEn] at hv
            have HV := Lib.hid hv
            clear hE hEn hv
            go_wp2_with fail
            refine (WNum_k (an : Int) 1 OK.out hK6).mono ?_
            rintro e w7 ⟨rfl, o7, d7⟩
            rw [HV.out] at o7 ⊢
            have D7 := Lib.hid (d7 _ D6.out)
            have OK7 := Lib.hid o7
            clear o7 d7 OK D6
            go_wp2
            exact ⟨⟨1, by omega, by first | rfl | trivial | go_num, OK7, D7⟩, by simp [intOf]⟩
          · obtain ⟨E, hE⟩ : ∃ E, E = B ++ ((([an, ak, am, al] : List Nat).take 1).flatMap fun a => beB a 1) := ⟨_, rfl⟩
            have hEl : E.length ≤ 3000 := by rw [hE]; simp [beB_length]; omega
            have hEn : E ++ beB ak 1 = B ++ ((([an, ak, am, al] : List Nat).take 2).flatMap fun a => beB a 1) := by rw [hE]; simp
            rw [← hE] at OK
            have hv := V1.out.2 E (by omega)
            have hix : ∀ W : World, (Instr.index 66 (.agg #[.int .i64 (an : Int), .int .i64 (ak : Int), .int .i64 (am : Int), .int .i64 (al : Int)]) (.int .i64 1)).run Try.prog W = .ok (.int .i64 (ak : Int)) W := fun W => ix4 W [(an : Int), (ak : Int), (am : Int), (al : Int)] 1 rfl (by decide)
            rw [hEn] at hv
            have HV := Lib.hid hv
            clear hE hEn hv
            go_wp2_with fail
            refine (WNum_k (ak : Int) 1 OK.out hK6).mono ?_
            rintro e w7 ⟨rfl, o7, d7⟩
            rw [HV.out] at o7 ⊢
            have D7 := Lib.hid (d7 _ D6.out)
            have OK7 := Lib.hid o7
            clear o7 d7 OK D6
            go_wp2
            exact ⟨⟨2, by omega, by first | rfl | trivial | go_num, OK7, D7⟩, by simp [intOf]⟩
          · obtain ⟨E, hE⟩ : ∃ E, E = B ++ ((([an, ak, am, al] : List Nat).take 2).flatMap fun a => beB a 1) := ⟨_, rfl⟩
            have hEl : E.length ≤ 3000 := by rw [hE]; simp [beB_length]; omega
            have hEn : E ++ beB am 1 = B ++ ((([an, ak, am, al] : List Nat).take 3).flatMap fun a => beB a 1) := by rw [hE]; simp
            rw [← hE] at OK
            have hv := V2.out.1 E (by omega)
            have hix : ∀ W : World, (Instr.index 66 (.agg #[.int .i64 (an : Int), .int .i64 (ak : Int), .int .i64 (am : Int), .int .i64 (al : Int)]) (.int .i64 2)).run Try.prog W = .ok (.int .i64 (am : Int)) W := fun W => ix4 W [(an : Int), (ak : Int), (am : Int), (al : Int)] 2 rfl (by decide)
            rw [hEn] at hv
            have HV := Lib.hid hv
            clear hE hEn hv
            go_wp2_with fail
            refine (WNum_k (am : Int) 1 OK.out hK6).mono ?_
            rintro e w7 ⟨rfl, o7, d7⟩
            rw [HV.out] at o7 ⊢
            have D7 := Lib.hid (d7 _ D6.out)
            have OK7 := Lib.hid o7
            clear o7 d7 OK D6
            go_wp2
            exact ⟨⟨3, by omega, by first | rfl | trivial | go_num, OK7, D7⟩, by simp [intOf]⟩
          · obtain ⟨E, hE⟩ : ∃ E, E = B ++ ((([an, ak, am, al] : List Nat).take 3).flatMap fun a => beB a 1) := ⟨_, rfl⟩
            have hEl : E.length ≤ 3000 := by rw [hE]; simp [beB_length]; omega
            have hEn : E ++ beB al 1 = B ++ ((([an, ak, am, al] : List Nat).take 4).flatMap fun a => beB a 1) := by rw [hE]; simp
            rw [← hE] at OK
            have hv := V2.out.2 E (by omega)
            have hix : ∀ W : World, (Instr.index 66 (.agg #[.int .i64 (an : Int), .int .i64 (ak : Int), .int .i64 (am : Int), .int .i64 (al : Int)]) (.int .i64 3)).run Try.prog W = .ok (.int .i64 (al : Int)) W := fun W => ix4 W [(an : Int), (ak : Int), (am : Int), (al : Int)] 3 rfl (by decide)
            rw [hEn] at hv
            have HV := Lib.hid hv
            clear hE hEn hv
            go_wp2_with fail
            refine (WNum_k (al : Int) 1 OK.out hK6).mono ?_
            rintro e w7 ⟨rfl, o7, d7⟩
            rw [HV.out] at o7 ⊢
            have D7 := Lib.hid (d7 _ D6.out)
            have OK7 := Lib.hid o7
            clear o7 d7 OK D6
            go_wp2
            exact ⟨⟨4, by omega, by first | rfl | trivial | go_num, OK7, D7⟩, by simp [intOf]⟩
      · obtain rfl : j = xs.length := by omega
        have q1 : ¬ ((xs.length : Int) < xs.length) := by omega
        rw [← HT.out] at HO
        go_wp2_with fail
        refine (WAll_own HO.out).mono ?_
        rintro e w7 ⟨rfl, rfl⟩
        have HP := Lib.hid HO.out.pure
        go_wp2
        go_ret2
        exact ⟨rfl, HP.out⟩

set_option maxRecDepth 100000 in
set_option maxHeartbeats 4000000 in
theorem PutItab_any (w : World) (V : Value) (xs : List Ino) (h : Rows inoC 37 w V xs) (hr : ∀ x ∈ xs, x.root.length = 32) (hlen : xs.length ≤ 4611686018427387904) :
    Calls Try.prog 11 #[V] w fun e w' => e = .returned (.tuple #[.string (bstr (putT xs).1), .int .i64 (putT xs).2]) ∧ Pure w w' := by
  have hm := ItabMay_any w V xs h hr hlen
  cases hb : tabB xs with
  | false =>
    rw [putT, if_neg (by rw [hb]; decide)]
    rw [hb] at hm
    obtain ⟨ao, cap, rfl, _⟩ := h
    have HM := Lib.hid hm
    clear hm
    go_enter Try.func11, Try.ntmps11
    go_wp2_with fail
    refine (HM.out).mono ?_
    rintro e w1 ⟨rfl, t1⟩
    have HP := Lib.hid t1
    clear t1
    go_wp2
    go_ret2
    exact ⟨rfl, HP.out⟩
  | true =>
    rw [putT, if_pos hb]
    rw [hb] at hm
    have hle := tabB_le hb
    have hib := tabB_mem hb
    obtain ⟨ao, cap, rfl, h2, h3, h4⟩ := h
    obtain ⟨Z, hZl, HZ⟩ := zeroN
    have hnl : (beB xs.length 1).length = 1 := beB_length _ _
    have hbe : ∀ W, Calls Try.prog 32 #[.int .i64 (xs.length : Int), .int .i64 1] W fun e w' => e = .returned (.string (bstr (beB xs.length 1))) ∧ Pure W w' := fun W => Be_any xs.length 1 W (by omega) (by omega)
    have hT0 : tabE xs = ([84] ++ beB xs.length 1) ++ (xs.take xs.length).flatMap inoE := by rw [tabE, List.take_length]
    generalize beB xs.length 1 = bn at hnl hbe hT0
    obtain ⟨HD, hHD⟩ : ∃ HD, HD = [84] ++ bn := ⟨_, rfl⟩
    have hHDl : HD.length = 2 := by rw [hHD, List.length_append, hnl]; rfl
    have aHD : (⟨#[84]⟩ : ByteArray) ++ bstr bn = bstr HD := by rw [hHD]; exact bstr_app [84] bn
    have zbn : (bstr bn).size = 1 := by rw [bstr_size, hnl]
    rw [← hHD] at hT0
    have HM := Lib.hid hm; have H3 := Lib.hid h3; have H4 := Lib.hid h4; have HR := Lib.hid hr; have HIB := Lib.hid hib; have HT := Lib.hid hT0; have HBE := Lib.hid hbe
    clear hm h3 h4 hr hib hT0 hHD hb hbe hnl
    go_enter Try.func11, Try.ntmps11
    go_wp2_with fail
    refine (HM.out).mono ?_
    rintro e w1 ⟨rfl, t1⟩
    have HP := Lib.hid t1
    clear t1 HM
    go_wp2_with fail
    refine (HBE.out _).mono ?_
    rintro e w2 ⟨rfl, t2⟩
    have HP := Lib.hid (HP.out.pure t2)
    clear t2 HBE
    go_wp2
    clear aHD zbn
    go_loopw [4, 5] (fun v i wr => ∃ j : Nat, j ≤ xs.length ∧ v = .string (bstr (HD ++ (xs.take j).flatMap inoE)) ∧ i = .int .i64 (j : Int) ∧ Hid (Pure w wr)) (fun _ i _ => xs.length - (intOf i).toNat)
    case atStart => exact ⟨0, by omega, by rw [List.take_zero, List.flatMap_nil, List.append_nil], rfl, HP⟩
    case round =>
      obtain ⟨j, hj, rfl, rfl, HP⟩ := hrel
      by_cases hlt : j < xs.length
      · have hne : xs ≠ [] := fun e => by rw [e] at hlt; simp at hlt
        obtain ⟨b, o, rfl, hrg⟩ := H3.out hne
        have r2 := HP.out.range (rowOf_at xs o j xs[j] (by simp [hlt]) hrg H4.out) (fun e => e)
        have x2 : (xs[j]).root.length = 32 := HR.out _ (List.getElem_mem hlt)
        have hxb := HIB.out _ (List.getElem_mem hlt)
        have hft := flat_take hlt
        have hfl : ((xs.take j).flatMap inoE).length = 38 * j := by
          rw [flat_length fun y hy => HR.out y (List.mem_of_mem_take hy), List.length_take]
          omega
        generalize xs[j] = X2 at r2 x2 hxb hft
        obtain ⟨B, hB⟩ : ∃ B, B = HD ++ (xs.take j).flatMap inoE := ⟨_, rfl⟩
        have hBl : B.length = 2 + 38 * j := by rw [hB, List.length_append, hfl, hHDl]
        have hBn : HD ++ (xs.take (j + 1)).flatMap inoE = B ++ inoE X2 := by rw [hft, hB, List.append_assoc]
        rw [← hB]
        obtain ⟨an, ak, am, al, az, e1, e2, e3, e4, e5, b1, b2, b3, b4, b5⟩ := inoB_parts hxb
        have hC := inoC_length x2
        have hEx : inoE X2 = beB an 1 ++ beB ak 1 ++ beB am 1 ++ beB al 1 ++ beB az 2 ++ X2.root := by rw [inoE, e1, e2, e3, e4, e5]; rfl
        have hcell : ∀ (W : World) G, W.heap[G]? = some (.cells (inoC X2).toArray 41 (0, 0)) → (W.cell? ⟨G, 0, none⟩ = some (.int .i64 (an : Int)) ∧ W.cell? ⟨G, 1, none⟩ = some (.int .i64 (ak : Int)) ∧ W.cell? ⟨G, 2, none⟩ = some (.int .i64 (am : Int)) ∧ W.cell? ⟨G, 3, none⟩ = some (.int .i64 (al : Int))) ∧ W.cell? ⟨G, 4, none⟩ = some (.int .i64 (az : Int)) ∧ W.rangeAt G 5 (u8s X2.root) := fun W G hg => by
          have c := ino_cell (range_of_row hg)
          have r := ino_root (range_of_row hg)
          rw [← e1, ← e2, ← e3, ← e4, ← e5]
          simp only [Nat.zero_add] at c r
          exact ⟨⟨c.1, c.2.1, c.2.2.1, c.2.2.2.1⟩, c.2.2.2.2, r⟩
        rw [hEx] at hBn
        have v1 : ∀ W, Calls Try.prog 32 #[.int .i64 (an : Int), .int .i64 1] W fun e w' => e = .returned (.string (bstr (beB an 1))) ∧ Pure W w' := fun W => Be_any an 1 W (by omega) (by omega)
        have v2 : ∀ W, Calls Try.prog 32 #[.int .i64 (ak : Int), .int .i64 1] W fun e w' => e = .returned (.string (bstr (beB ak 1))) ∧ Pure W w' := fun W => Be_any ak 1 W (by omega) (by omega)
        have v3 : ∀ W, Calls Try.prog 32 #[.int .i64 (am : Int), .int .i64 1] W fun e w' => e = .returned (.string (bstr (beB am 1))) ∧ Pure W w' := fun W => Be_any am 1 W (by omega) (by omega)
        have v4 : ∀ W, Calls Try.prog 32 #[.int .i64 (al : Int), .int .i64 1] W fun e w' => e = .returned (.string (bstr (beB al 1))) ∧ Pure W w' := fun W => Be_any al 1 W (by omega) (by omega)
        have v5 : ∀ W, Calls Try.prog 32 #[.int .i64 (az : Int), .int .i64 2] W fun e w' => e = .returned (.string (bstr (beB az 2))) ∧ Pure W w' := fun W => Be_any az 2 W (by omega) (by omega)
        have l1 := beB_length an 1; have l2 := beB_length ak 1; have l3 := beB_length am 1; have l4 := beB_length al 1; have l5 := beB_length az 2
        generalize beB an 1 = p1 at v1 l1 hBn
        generalize beB ak 1 = p2 at v2 l2 hBn
        generalize beB am 1 = p3 at v3 l3 hBn
        generalize beB al 1 = p4 at v4 l4 hBn
        generalize beB az 2 = p5 at v5 l5 hBn
        have v6 := fun W => T_any W X2.root x2
        obtain ⟨E1, hE1⟩ : ∃ E1, E1 = B ++ p1 := ⟨_, rfl⟩
        have E1l : E1.length = (2 + 38 * j) + 1 := by rw [hE1, List.length_append]; first | rfl | omega | (simp; omega) | simp
        have aE1 : bstr B ++ bstr p1 = bstr E1 := by rw [hE1]; exact bstr_app B p1
        have zE1 : (bstr E1).size = (2 + 38 * j) + 1 := by rw [bstr_size, E1l]
        have nE1 : ¬ (9223372036854775807 < (2 + 38 * j) + 1) := by omega
        obtain ⟨E2, hE2⟩ : ∃ E2, E2 = E1 ++ p2 := ⟨_, rfl⟩
        have E2l : E2.length = (2 + 38 * j + 1) + 1 := by rw [hE2, List.length_append]; first | rfl | omega | (simp; omega) | simp
        have aE2 : bstr E1 ++ bstr p2 = bstr E2 := by rw [hE2]; exact bstr_app E1 p2
        have zE2 : (bstr E2).size = (2 + 38 * j + 1) + 1 := by rw [bstr_size, E2l]
        have nE2 : ¬ (9223372036854775807 < (2 + 38 * j + 1) + 1) := by omega
        obtain ⟨E3, hE3⟩ : ∃ E3, E3 = E2 ++ p3 := ⟨_, rfl⟩
        have E3l : E3.length = (2 + 38 * j + 2) + 1 := by rw [hE3, List.length_append]; first | rfl | omega | (simp; omega) | simp
        have aE3 : bstr E2 ++ bstr p3 = bstr E3 := by rw [hE3]; exact bstr_app E2 p3
        have zE3 : (bstr E3).size = (2 + 38 * j + 2) + 1 := by rw [bstr_size, E3l]
        have nE3 : ¬ (9223372036854775807 < (2 + 38 * j + 2) + 1) := by omega
        obtain ⟨E4, hE4⟩ : ∃ E4, E4 = E3 ++ p4 := ⟨_, rfl⟩
        have E4l : E4.length = (2 + 38 * j + 3) + 1 := by rw [hE4, List.length_append]; first | rfl | omega | (simp; omega) | simp
        have aE4 : bstr E3 ++ bstr p4 = bstr E4 := by rw [hE4]; exact bstr_app E3 p4
        have zE4 : (bstr E4).size = (2 + 38 * j + 3) + 1 := by rw [bstr_size, E4l]
        have nE4 : ¬ (9223372036854775807 < (2 + 38 * j + 3) + 1) := by omega
        obtain ⟨E5, hE5⟩ : ∃ E5, E5 = E4 ++ p5 := ⟨_, rfl⟩
        have E5l : E5.length = (2 + 38 * j + 4) + 2 := by rw [hE5, List.length_append]; first | rfl | omega | (simp; omega) | simp
        have aE5 : bstr E4 ++ bstr p5 = bstr E5 := by rw [hE5]; exact bstr_app E4 p5
        have zE5 : (bstr E5).size = (2 + 38 * j + 4) + 2 := by rw [bstr_size, E5l]
        have nE5 : ¬ (9223372036854775807 < (2 + 38 * j + 4) + 2) := by omega
        obtain ⟨E6, hE6⟩ : ∃ E6, E6 = E5 ++ X2.root := ⟨_, rfl⟩
        have E6l : E6.length = (2 + 38 * j + 6) + 32 := by rw [hE6, List.length_append]; first | rfl | omega | (simp; omega) | simp
        have aE6 : bstr E5 ++ bstr X2.root = bstr E6 := by rw [hE6]; exact bstr_app E5 X2.root
        have zE6 : (bstr E6).size = (2 + 38 * j + 6) + 32 := by rw [bstr_size, E6l]
        have nE6 : ¬ (9223372036854775807 < (2 + 38 * j + 6) + 32) := by omega
        have hBE : HD ++ (xs.take (j + 1)).flatMap inoE = E6 := by rw [hBn, hE6, hE5, hE4, hE3, hE2, hE1]; simp
        have zB : (bstr B).size = 2 + 38 * j := by rw [bstr_size, hBl]
        have z1 : (bstr p1).size = 1 := by rw [bstr_size, l1]
        have z2 : (bstr p2).size = 1 := by rw [bstr_size, l2]
        have z3 : (bstr p3).size = 1 := by rw [bstr_size, l3]
        have z4 : (bstr p4).size = 1 := by rw [bstr_size, l4]
        have z5 : (bstr p5).size = 2 := by rw [bstr_size, l5]
        have z6 : (bstr X2.root).size = 32 := by rw [bstr_size, x2]
        have q0 : (0 : Int) ≤ j := by omega
        have q1 : (j : Int) < xs.length := by omega
        have i3 : IntKind.i64.wrap ((j : Int) + 1) = ((j + 1 : Nat) : Int) := by rw [IntWalk.i64_in _ (by omega)]; omega
        have R2 := Lib.hid r2; have HBN := Lib.hid hBE; have HCE := Lib.hid hcell
        have V1 := Lib.hid v1; have V2 := Lib.hid v2; have V3 := Lib.hid v3; have V4 := Lib.hid v4; have V5 := Lib.hid v5; have V6 := Lib.hid v6
        clear v1 v2 v3 v4 v5 v6 hcell hEx hBn hB hft hfl hrg r2 e1 e2 e3 e4 e5 hxb hBE hE1 hE2 hE3 hE4 hE5 hE6 E1l E2l E3l E4l E5l E6l l1 l2 l3 l4 l5 hBl
        have HONE := inoC_one X2
        have HONE := inoC_one X2
        generalize inoC X2 = C at *
        go_wp2_with (first | (refine wpList_load_mid rfl 41 _ rfl b (o + j * 37) rfl C _ R2.out Try.underlying41 rfl (by rw [infoN, hC]) ?_) | (refine wpList_allocZ rfl 41 rfl Z HZ.out ?_))
        intro g6 w5 e5 c5 t5 s5
        have l6 : wr.heap.size ≤ g6 := by omega
        clear s5 e5
        go_wp2_with (refine wpList_store_blk rfl 41 _ _ rfl g6 _ C _ rfl rfl c5 (by simp [hZl, hC]) (by rw [infoN, hC]) HONE ?_)
        intro w6 c6 t6 s6
        have hp6 : Pure wr w6 := t5.trans t6 fun q hq e => by omega
        have HP := Lib.hid (HP.out.pure hp6)
        clear c5 t5 t6 s6 hp6 R2
        go_wp2_with fail
        refine wp_region_held_drew (S := fun w' => w'.heap[g6]? = some (.cells C.toArray 41 (0, 0))) (by kernel_rfl) (show w6.drew.heap[g6]? = _ from c6) (fun hS => ?_)
        have HS := Lib.hid hS
        have HP := Lib.hid HP.out.drew
        clear hS c6
        generalize w6.drew = wr at *
        refine wpAnyH_take (i := 0) (v := ?_) rfl (by kernel_rfl) (by kernel_rfl) (by kernel_rfl) (fun _ _ _ h => h) (Or.inl ⟨by rfl, fun w hSw => ?_⟩) HS.out ?_
        rotate_left
        · obtain ⟨⟨k0, k1, k2, k3⟩, k4, _⟩ := HCE.out _ _ hSw
          first | (go_simp; done) | (go_simp; with_reducible rfl)
        simp only [List.getElem_toArray, List.getElem_cons_zero, Act.put, List.setIfInBounds_toArray, List.set_cons_zero, List.set_cons_succ]
        refine wpAnyH_take (i := 1) (v := ?_) rfl (by kernel_rfl) (by kernel_rfl) (by kernel_rfl) (fun _ _ _ h => h) (Or.inl ⟨by rfl, fun w hSw => ?_⟩) HS.out ?_
        rotate_left
        · obtain ⟨⟨k0, k1, k2, k3⟩, k4, _⟩ := HCE.out _ _ hSw
          first | (go_simp; done) | (go_simp; with_reducible rfl)
        simp only [List.getElem_toArray, List.getElem_cons_succ, List.getElem_cons_zero, Act.put, List.setIfInBounds_toArray, List.set_cons_zero, List.set_cons_succ]
        refine wpAnyH_take (i := 2) (v := ?_) rfl (by kernel_rfl) (by kernel_rfl) (by kernel_rfl) (fun _ _ _ h => h) (Or.inl ⟨by rfl, fun w hSw => ?_⟩) HS.out ?_
        rotate_left
        · obtain ⟨⟨k0, k1, k2, k3⟩, k4, _⟩ := HCE.out _ _ hSw
          first | (go_simp; done) | (go_simp; with_reducible rfl)
        simp only [List.getElem_toArray, List.getElem_cons_succ, List.getElem_cons_zero, Act.put, List.setIfInBounds_toArray, List.set_cons_zero, List.set_cons_succ]
        refine wpAnyH_take (i := 5) (v := ?_) rfl (by kernel_rfl) (by kernel_rfl) (by kernel_rfl) (fun _ _ _ h => h) (Or.inl ⟨by rfl, fun w hSw => ?_⟩) HS.out ?_
        rotate_left
        · obtain ⟨⟨k0, k1, k2, k3⟩, k4, _⟩ := HCE.out _ _ hSw
          first | (go_simp; done) | (go_simp; with_reducible rfl)
        simp only [List.getElem_toArray, List.getElem_cons_succ, List.getElem_cons_zero, Act.put, List.setIfInBounds_toArray, List.set_cons_zero, List.set_cons_succ]
        refine wpAnyH_take (i := 6) (v := ?_) rfl (by kernel_rfl) (by kernel_rfl) (by kernel_rfl) (fun _ _ _ h => h) (Or.inl ⟨by rfl, fun w hSw => ?_⟩) HS.out ?_
        rotate_left
        · obtain ⟨⟨k0, k1, k2, k3⟩, k4, _⟩ := HCE.out _ _ hSw
          first | (go_simp; done) | (go_simp; with_reducible rfl)
        simp only [List.getElem_toArray, List.getElem_cons_succ, List.getElem_cons_zero, Act.put, List.setIfInBounds_toArray, List.set_cons_zero, List.set_cons_succ]
        refine wpAnyH_take (i := 9) (v := ?_) rfl (by kernel_rfl) (by kernel_rfl) (by kernel_rfl) (fun _ _ _ h => h) (Or.inl ⟨by rfl, fun w hSw => ?_⟩) HS.out ?_
        rotate_left
        · obtain ⟨⟨k0, k1, k2, k3⟩, k4, _⟩ := HCE.out _ _ hSw
          first | (go_simp; done) | (go_simp; with_reducible rfl)
        simp only [List.getElem_toArray, List.getElem_cons_succ, List.getElem_cons_zero, Act.put, List.setIfInBounds_toArray, List.set_cons_zero, List.set_cons_succ]
        refine wpAnyH_take (i := 10) (v := ?_) rfl (by kernel_rfl) (by kernel_rfl) (by kernel_rfl) (fun _ _ _ h => h) (Or.inl ⟨by rfl, fun w hSw => ?_⟩) HS.out ?_
        rotate_left
        · obtain ⟨⟨k0, k1, k2, k3⟩, k4, _⟩ := HCE.out _ _ hSw
          first | (go_simp; done) | (go_simp; with_reducible rfl)
        simp only [List.getElem_toArray, List.getElem_cons_succ, List.getElem_cons_zero, Act.put, List.setIfInBounds_toArray, List.set_cons_zero, List.set_cons_succ]
        refine wpAnyH_take (i := 13) (v := ?_) rfl (by kernel_rfl) (by kernel_rfl) (by kernel_rfl) (fun _ _ _ h => h) (Or.inl ⟨by rfl, fun w hSw => ?_⟩) HS.out ?_
        rotate_left
        · obtain ⟨⟨k0, k1, k2, k3⟩, k4, _⟩ := HCE.out _ _ hSw
          first | (go_simp; done) | (go_simp; with_reducible rfl)
        simp only [List.getElem_toArray, List.getElem_cons_succ, List.getElem_cons_zero, Act.put, List.setIfInBounds_toArray, List.set_cons_zero, List.set_cons_succ]
        refine wpAnyH_take (i := 14) (v := ?_) rfl (by kernel_rfl) (by kernel_rfl) (by kernel_rfl) (fun _ _ _ h => h) (Or.inl ⟨by rfl, fun w hSw => ?_⟩) HS.out ?_
        rotate_left
        · obtain ⟨⟨k0, k1, k2, k3⟩, k4, _⟩ := HCE.out _ _ hSw
          first | (go_simp; done) | (go_simp; with_reducible rfl)
        simp only [List.getElem_toArray, List.getElem_cons_succ, List.getElem_cons_zero, Act.put, List.setIfInBounds_toArray, List.set_cons_zero, List.set_cons_succ]
        refine wpAnyH_take (i := 17) (v := ?_) rfl (by kernel_rfl) (by kernel_rfl) (by kernel_rfl) (fun _ _ _ h => h) (Or.inl ⟨by rfl, fun w hSw => ?_⟩) HS.out ?_
        rotate_left
        · obtain ⟨⟨k0, k1, k2, k3⟩, k4, _⟩ := HCE.out _ _ hSw
          first | (go_simp; done) | (go_simp; with_reducible rfl)
        simp only [List.getElem_toArray, List.getElem_cons_succ, List.getElem_cons_zero, Act.put, List.setIfInBounds_toArray, List.set_cons_zero, List.set_cons_succ]
        refine wpAnyH_take (i := 18) (v := ?_) rfl (by kernel_rfl) (by kernel_rfl) (by kernel_rfl) (fun _ _ _ h => h) (Or.inl ⟨by rfl, fun w hSw => ?_⟩) HS.out ?_
        rotate_left
        · obtain ⟨⟨k0, k1, k2, k3⟩, k4, _⟩ := HCE.out _ _ hSw
          first | (go_simp; done) | (go_simp; with_reducible rfl)
        simp only [List.getElem_toArray, List.getElem_cons_succ, List.getElem_cons_zero, Act.put, List.setIfInBounds_toArray, List.set_cons_zero, List.set_cons_succ]
        refine wpAnyH_take (i := 21) (v := ?_) rfl (by kernel_rfl) (by kernel_rfl) (by kernel_rfl) (fun _ _ _ h => h) (Or.inl ⟨by rfl, fun w hSw => ?_⟩) HS.out ?_
        rotate_left
        · obtain ⟨⟨k0, k1, k2, k3⟩, k4, _⟩ := HCE.out _ _ hSw
          first | (go_simp; done) | (go_simp; with_reducible rfl)
        simp only [List.getElem_toArray, List.getElem_cons_succ, List.getElem_cons_zero, Act.put, List.setIfInBounds_toArray, List.set_cons_zero, List.set_cons_succ]
        refine wpAnyH_take (i := 22) (v := hv X2.root) rfl (by kernel_rfl) (by kernel_rfl) (by kernel_rfl) (fun _ _ _ h => h) (yieldsIf_load_mid (by rfl) 39 _ rfl g6 5 rfl (u8s X2.root) _ (fun w h => (HCE.out _ _ h).2.2) Try.underlying39 rfl (info28_l x2)) HS.out ?_
        simp only [List.getElem_toArray, List.getElem_cons_succ, List.getElem_cons_zero, Act.put, List.setIfInBounds_toArray, List.set_cons_zero, List.set_cons_succ]
        refine wpAnyH_step (i := 3) (by kernel_rfl) rfl fun K hK => ?_
        go_simp
        refine (V1.out _).mono ?_
        rintro e v0 ⟨rfl, t0⟩
        have HP := Lib.hid (HP.out.pure t0); have HS := Lib.hid (t0.obj HS.out (fun e => e))
        clear t0
        refine hK.out _ _ HS.out ?_
        clear hK K
        try simp only [List.getElem_toArray, List.getElem_cons_succ, List.getElem_cons_zero, Act.put, List.setIfInBounds_toArray, List.set_cons_zero, List.set_cons_succ]
        refine wpAnyH_take (i := 4) (v := ?_) rfl (by kernel_rfl) (by kernel_rfl) (by kernel_rfl) (fun _ _ _ h => h) (Or.inl ⟨by rfl, fun w hSw => ?_⟩) HS.out ?_
        rotate_left
        · first | (go_simp; done) | (go_simp; with_reducible rfl)
        simp only [List.getElem_toArray, List.getElem_cons_succ, List.getElem_cons_zero, Act.put, List.setIfInBounds_toArray, List.set_cons_zero, List.set_cons_succ]
        refine wpAnyH_step (i := 7) (by kernel_rfl) rfl fun K hK => ?_
        go_simp
        refine (V2.out _).mono ?_
        rintro e v1 ⟨rfl, t1⟩
        have HP := Lib.hid (HP.out.pure t1); have HS := Lib.hid (t1.obj HS.out (fun e => e))
        clear t1
        refine hK.out _ _ HS.out ?_
        clear hK K
        try simp only [List.getElem_toArray, List.getElem_cons_succ, List.getElem_cons_zero, Act.put, List.setIfInBounds_toArray, List.set_cons_zero, List.set_cons_succ]
        refine wpAnyH_take (i := 8) (v := ?_) rfl (by kernel_rfl) (by kernel_rfl) (by kernel_rfl) (fun _ _ _ h => h) (Or.inl ⟨by rfl, fun w hSw => ?_⟩) HS.out ?_
        rotate_left
        · first | (go_simp; done) | (go_simp; with_reducible rfl)
        simp only [List.getElem_toArray, List.getElem_cons_succ, List.getElem_cons_zero, Act.put, List.setIfInBounds_toArray, List.set_cons_zero, List.set_cons_succ]
        refine wpAnyH_step (i := 11) (by kernel_rfl) rfl fun K hK => ?_
        go_simp
        refine (V3.out _).mono ?_
        rintro e v2 ⟨rfl, t2⟩
        have HP := Lib.hid (HP.out.pure t2); have HS := Lib.hid (t2.obj HS.out (fun e => e))
        clear t2
        refine hK.out _ _ HS.out ?_
        clear hK K
        try simp only [List.getElem_toArray, List.getElem_cons_succ, List.getElem_cons_zero, Act.put, List.setIfInBounds_toArray, List.set_cons_zero, List.set_cons_succ]
        refine wpAnyH_take (i := 12) (v := ?_) rfl (by kernel_rfl) (by kernel_rfl) (by kernel_rfl) (fun _ _ _ h => h) (Or.inl ⟨by rfl, fun w hSw => ?_⟩) HS.out ?_
        rotate_left
        · first | (go_simp; done) | (go_simp; with_reducible rfl)
        simp only [List.getElem_toArray, List.getElem_cons_succ, List.getElem_cons_zero, Act.put, List.setIfInBounds_toArray, List.set_cons_zero, List.set_cons_succ]
        refine wpAnyH_step (i := 15) (by kernel_rfl) rfl fun K hK => ?_
        go_simp
        refine (V4.out _).mono ?_
        rintro e v3 ⟨rfl, t3⟩
        have HP := Lib.hid (HP.out.pure t3); have HS := Lib.hid (t3.obj HS.out (fun e => e))
        clear t3
        refine hK.out _ _ HS.out ?_
        clear hK K
        try simp only [List.getElem_toArray, List.getElem_cons_succ, List.getElem_cons_zero, Act.put, List.setIfInBounds_toArray, List.set_cons_zero, List.set_cons_succ]
        refine wpAnyH_take (i := 16) (v := ?_) rfl (by kernel_rfl) (by kernel_rfl) (by kernel_rfl) (fun _ _ _ h => h) (Or.inl ⟨by rfl, fun w hSw => ?_⟩) HS.out ?_
        rotate_left
        · first | (go_simp; done) | (go_simp; with_reducible rfl)
        simp only [List.getElem_toArray, List.getElem_cons_succ, List.getElem_cons_zero, Act.put, List.setIfInBounds_toArray, List.set_cons_zero, List.set_cons_succ]
        refine wpAnyH_step (i := 19) (by kernel_rfl) rfl fun K hK => ?_
        go_simp
        refine (V5.out _).mono ?_
        rintro e v4 ⟨rfl, t4⟩
        have HP := Lib.hid (HP.out.pure t4); have HS := Lib.hid (t4.obj HS.out (fun e => e))
        clear t4
        refine hK.out _ _ HS.out ?_
        clear hK K
        try simp only [List.getElem_toArray, List.getElem_cons_succ, List.getElem_cons_zero, Act.put, List.setIfInBounds_toArray, List.set_cons_zero, List.set_cons_succ]
        refine wpAnyH_take (i := 20) (v := ?_) rfl (by kernel_rfl) (by kernel_rfl) (by kernel_rfl) (fun _ _ _ h => h) (Or.inl ⟨by rfl, fun w hSw => ?_⟩) HS.out ?_
        rotate_left
        · first | (go_simp; done) | (go_simp; with_reducible rfl)
        simp only [List.getElem_toArray, List.getElem_cons_succ, List.getElem_cons_zero, Act.put, List.setIfInBounds_toArray, List.set_cons_zero, List.set_cons_succ]
        refine wpAnyH_step (i := 23) (by kernel_rfl) rfl fun K hK => ?_
        go_simp
        refine (V6.out _).mono ?_
        rintro e v5 ⟨rfl, t5⟩
        have HP := Lib.hid (HP.out.pure t5); have HS := Lib.hid (t5.obj HS.out (fun e => e))
        clear t5
        refine hK.out _ _ HS.out ?_
        clear hK K
        try simp only [List.getElem_toArray, List.getElem_cons_succ, List.getElem_cons_zero, Act.put, List.setIfInBounds_toArray, List.set_cons_zero, List.set_cons_succ]
        refine wpAnyH_take (i := 24) (v := ?_) rfl (by kernel_rfl) (by kernel_rfl) (by kernel_rfl) (fun _ _ _ h => h) (Or.inl ⟨by rfl, fun w hSw => ?_⟩) HS.out ?_
        rotate_left
        · first | (go_simp; done) | (go_simp; with_reducible rfl)
        simp only [List.getElem_toArray, List.getElem_cons_succ, List.getElem_cons_zero, Act.put, List.setIfInBounds_toArray, List.set_cons_zero, List.set_cons_succ]
        refine wpAnyH_take (i := 25) (v := ?_) rfl (by kernel_rfl) (by kernel_rfl) (by kernel_rfl) (fun _ _ _ h => h) (Or.inl ⟨by rfl, fun w hSw => ?_⟩) HS.out ?_
        rotate_left
        · first | (go_simp; done) | (go_simp; with_reducible rfl)
        simp only [List.getElem_toArray, List.getElem_cons_succ, List.getElem_cons_zero, Act.put, List.setIfInBounds_toArray, List.set_cons_zero, List.set_cons_succ]
        refine wpAnyH_done (by kernel_rfl) ?_ _
        go_wp2
        exact ⟨⟨j + 1, by omega, by rw [HBN.out], by first | rfl | trivial, HP⟩, by simp [intOf]; omega⟩
      · obtain rfl : j = xs.length := by omega
        have q1 : ¬ ((xs.length : Int) < xs.length) := by omega
        rw [← HT.out]
        go_wp2
        go_ret2
        exact ⟨rfl, HP.out⟩
end Go.Proofs.Ythfekopimmgdmaa
