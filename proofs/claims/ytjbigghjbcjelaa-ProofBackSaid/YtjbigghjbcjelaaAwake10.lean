/- What every program of chapter 10 answers that is one. -/
import Derived.Test.YtjbigghjbcjelaaCChk
namespace Go.Proofs.Ytjbigghjbcjelaa
open Go.RowKit Go.WideShapes

/-- An argument that is a hash. -/
theorem open_hash {H : Type} {enc : TypeId × Value → H} {w W : World} {r : Reach} {base : Nat} {v : Value} (h : Fit enc Try.prog w 28 v.cells.toList) (hv0 : Value.okWide Try.prog W r base 28 v) : ∃ l, v = hv l ∧ l.length = 32 := by
  have hu := Try.underlying28
  obtain ⟨l, hl, h32⟩ := h.bytes hu Try.underlying5 (by kernel_rfl) (by kernel_rfl)
  simp only [Value.okWide, hu] at hv0
  obtain ⟨cs, rfl, _, _⟩ := hv0
  refine ⟨l, ?_, h32⟩
  have : cs.toList = u8s l := hl
  rw [hv, ← this]
theorem hrow_of {w : World} {b : Nat} : ∀ (hs : List (List UInt8)) (o : Nat), (∀ y ∈ hs, y.length = 32) → (∀ (i : Nat) x, hs[i]? = some x → w.rangeAt b (o + i * 32) (u8s x)) → w.rangeAt b o (hrow hs)
  | [], o, _, _ => fun j u hj => by simp [hrow] at hj
  | x :: t, o, h4, h => fun j u hj => by
    have hx : x.length = 32 := h4 x (by simp)
    simp only [hrow, List.flatMap_cons] at hj
    by_cases hlt : j < 32
    · rw [List.getElem?_append_left (by rw [u8s_length]; omega)] at hj
      have := h 0 x rfl j u hj
      simpa using this
    · rw [List.getElem?_append_right (by rw [u8s_length]; omega), u8s_length, hx] at hj
      have := hrow_of t (o + 32) (fun y hy => h4 y (by simp [hy])) (fun i y hy => by
        have := h (i + 1) y (by simpa using hy)
        rwa [show o + (i + 1) * 32 = o + 32 + i * 32 from by omega] at this) (j - 32) u hj
      rwa [show o + 32 + (j - 32) = o + j from by omega] at this
/-- An argument that is a row of hashes. -/
theorem open_hashs {H : Type} {enc : TypeId × Value → H} {w : World} {v : Value} (h : Fit enc Try.prog w 41 v.cells.toList) (hv0 : ∃ ao n c, v = .slice ao n c) : ∃ hs, Hashs w v hs ∧ hs.length ≤ 4398046510976 := by
  have hby : Try.prog.bytesOf 28 = 32 := by kernel_rfl
  obtain ⟨xs, ⟨ao, cap, e1, e2, e3, e4⟩, hb⟩ := h.row (α := List UInt8) (size := 32) (cells := u8s) (ok := fun l => l.length = 32) Try.underlying41 (by kernel_rfl) (by decide)
    (fun cs hcs => hcs.bytes Try.underlying28 Try.underlying5 (by kernel_rfl) (by kernel_rfl)) hv0
  rw [hby] at hb
  have h4 : ∀ y ∈ xs, y.length = 32 := fun y hy => by
    obtain ⟨i, hi, rfl⟩ := List.getElem_of_mem hy
    exact (e4 i xs[i] (by simp [hi])).1
  refine ⟨xs, ⟨ao, cap, e1, e2, fun hne => ?_, h4⟩, by omega⟩
  have h0 : 0 < xs.length := List.length_pos_iff.2 hne
  obtain ⟨_, b, o, q2, _⟩ := e4 0 xs[0] (by simp)
  refine ⟨b, o, q2, hrow_of xs o h4 fun i x hx => ?_⟩
  obtain ⟨_, b', o', q3, q4⟩ := e4 i x hx
  rw [q2] at q3
  obtain ⟨rfl, rfl⟩ : b = b' ∧ o = o' := by
    have := Option.some.inj q3
    simp only [Addr.mk.injEq] at this
    exact ⟨this.1, this.2.1⟩
  exact q4

/-! Three leaves. -/
def abc : List (List UInt8) := [[97], [98], [99]]
def pJ : List UInt8 := joinV (leafV [97]) (leafV [98])
theorem belowV_three : belowV 3 = 2 := by decide
theorem root_abc : rootV abc = joinV pJ (leafV [99]) := by
  rw [rootV_more (by decide)]
  show joinV (rootV (List.take (belowV 3) abc)) (rootV (List.drop (belowV 3) abc)) = _
  rw [belowV_three]
  show joinV (rootV [[97], [98]]) (rootV [[99]]) = _
  rw [rootV_two, rootV_one]; rfl
theorem path_abc : pathV abc 2 = [pJ] := by
  rw [pathV_right (by decide) (by show ¬ 2 < belowV 3; rw [belowV_three]; decide)]
  show pathV (List.drop (belowV 3) abc) (2 - belowV 3) ++ [rootV (List.take (belowV 3) abc)] = _
  rw [belowV_three]
  show pathV [[99]] 0 ++ [rootV [[97], [98]]] = _
  rw [pathV_one _ _ (by decide), rootV_two]; rfl
theorem climb_abc (x : List UInt8) : climbV 3 [pJ] x 2 = (joinV pJ x, true) := by
  have := climbV_right (size := 3) (i := 2) [] pJ x (by decide) (by rw [belowV_three]; decide)
  rw [List.nil_append, belowV_three, climbV_one (3 - 2) [] x (2 - 2) (by decide)] at this
  exact this
theorem chk_c : chkV [99] 2 3 [pJ] (rootV abc) = 0 := by
  rw [chkV_climb _ _ _ _ _ (by decide), climb_abc, root_abc]
  simp
theorem not_d : (joinV (joinV (leafV [97]) (leafV [98])) (leafV [100]) == joinV (joinV (leafV [97]) (leafV [98])) (leafV [99])) = false := by decide +kernel
theorem chk_d : chkV [100] 2 3 [pJ] (rootV abc) = 1001 := by
  rw [chkV_climb _ _ _ _ _ (by decide), climb_abc, root_abc]
  show (if true = true ∧ (joinV (joinV (leafV [97]) (leafV [98])) (leafV [100]) == joinV (joinV (leafV [97]) (leafV [98])) (leafV [99])) = true then (0 : Int) else 1001) = 1001
  rw [not_d]; rfl
theorem sub_abc : subV abc 1 true = [leafV [98], leafV [99]] := by
  rw [subV_left true (by decide) (by decide) (by show 1 ≤ belowV 3; rw [belowV_three]; decide)]
  show subV (List.take (belowV 3) abc) 1 true ++ [rootV (List.drop (belowV 3) abc)] = _
  rw [belowV_three]
  show subV [[97], [98]] 1 true ++ [rootV [[99]]] = _
  rw [subV_left true (by decide) (by decide) (by show 1 ≤ belowV 2; rw [belowV_two]; decide)]
  show (subV (List.take (belowV 2) [[97], [98]]) 1 true ++ [rootV (List.drop (belowV 2) [[97], [98]])]) ++ [rootV [[99]]] = _
  rw [belowV_two]
  show (subV [[97]] 1 true ++ [rootV [[98]]]) ++ [rootV [[99]]] = _
  rw [subV_eq _ _ _ (by decide), if_pos rfl]
  simp [rootV_one]
theorem rise_abc (old : List UInt8) : riseV 1 3 old true [leafV [98], leafV [99]] = (old, joinV (joinV old (leafV [98])) (leafV [99]), true) := by
  have h1 := riseV_left (m := 1) (size := 3) old true [leafV [98]] (leafV [99]) (by decide) (by decide) (by rw [belowV_three]; decide)
  have h2 := riseV_left (m := 1) (size := 2) old true [] (leafV [98]) (by decide) (by decide) (by rw [belowV_two]; decide)
  rw [belowV_three] at h1
  rw [belowV_two, riseV_whole] at h2
  rw [List.nil_append] at h2
  rw [h2] at h1
  exact h1
theorem cchk_a : cchkV 1 (leafV [97]) 3 (rootV abc) [leafV [98], leafV [99]] = 0 := by
  rw [cchkV, rise_abc, root_abc]
  simp [pJ]
theorem not_b : (joinV (joinV (leafV [98]) (leafV [98])) (leafV [99]) == joinV (joinV (leafV [97]) (leafV [98])) (leafV [99])) = false := by decide +kernel
theorem cchk_b : cchkV 1 (leafV [98]) 3 (rootV abc) [leafV [98], leafV [99]] = 1001 := by
  rw [cchkV, rise_abc, root_abc]
  show (if true = true ∧ (leafV [98] == leafV [98]) = true ∧ (joinV (joinV (leafV [98]) (leafV [98])) (leafV [99]) == joinV (joinV (leafV [97]) (leafV [98])) (leafV [99])) = true then (0 : Int) else 1001) = 1001
  rw [not_b]; simp
theorem incl2 : inclV abc 2 = [pJ] ∧ inclE abc 2 = 0 := ⟨by rw [inclV, if_pos (by decide)]; exact path_abc, by rw [inclE, if_pos (by decide)]⟩
theorem incl3 : inclE abc 3 = 1000 := by rw [inclE, if_neg (by decide)]
theorem cons1' : consV abc 1 = [leafV [98], leafV [99]] ∧ consE abc 1 = 0 := ⟨by rw [consV, if_pos (by decide)]; exact sub_abc, by rw [consE, if_pos (by decide)]⟩
theorem cons0' : consE abc 0 = 1000 := by rw [consE, if_neg (by decide)]
theorem fits_abc : Fits abc := fun l hl => by simp [abc] at hl; rcases hl with rfl | rfl | rfl <;> decide
theorem fillAbc : Instr.fill (fun i => some (i * 1, 1)) ((Array.range (3 * 1)).map ((Value.string ⟨#[]⟩).cells[· % (Value.string ⟨#[]⟩).cells.size]!)) [(0, .string ⟨#[97]⟩), (1, .string ⟨#[98]⟩), (2, .string ⟨#[99]⟩)] = some (strs abc).toArray := by kernel_rfl
theorem wpList_buildAbc {ops : Array Oper} {rest : List Oper} {o : Oper} {a : Act} {w : World} {Q : Exit → Act → World → Prop} (hg : o.guard = none) (ho : o.op = .buildSlice 22 3 #[(0, .const (.string ⟨#[97]⟩)), (1, .const (.string ⟨#[98]⟩)), (2, .const (.string ⟨#[99]⟩))])
    (h : wpList Try.prog ops Q rest (a.put o.dst (.slice (some ⟨w.heap.size, 0, none⟩) 3 3)) (w.alloc (.cells (strs abc).toArray 9))) : wpList Try.prog ops Q (o :: rest) a w := by
  obtain ⟨i, hi, hz, hs, hb⟩ := partsStr
  refine wpList_buildSlice hg 22 9 3 _ ho (strs abc).toArray i _ Try.underlying22 hi.out hz (by rw [hs]; omega) (by rw [hs]; omega) ?_ h
  rw [hs]
  simpa [Act.eval] using fillAbc

set_option maxRecDepth 100000 in
set_option maxHeartbeats 2000000 in
theorem awake10 (w : World) : Calls Try.prog 33 #[] w fun e w' => e = .returned (.bool true) ∧ Pure w w' := by
  have hR32 : (rootV abc).length = 32 := rootV_length _
  have hI2 := fun W V h => Inclusion_any W V abc 2 h fits_abc (by decide) (by decide)
  have hI3 := fun W V h => Inclusion_any W V abc 3 h fits_abc (by decide) (by decide)
  have hC1 := fun W V h => Consistency_any W V abc 1 h fits_abc (by decide) (by decide)
  have hC0 := fun W V h => Consistency_any W V abc 0 h fits_abc (by decide) (by decide)
  rw [incl2.1, incl2.2] at hI2
  rw [incl3] at hI3
  rw [cons1'.1, cons1'.2] at hC1
  rw [cons0'] at hC0
  have hRT := fun W V h => RRoot_texts W V abc h fits_abc (by decide)
  have hRA := fun W V h => RRoot_texts W V [[97]] h (fun l hl => by simp at hl; rw [hl]; decide) (by decide)
  have hRB := fun W V h => RRoot_texts W V [[98]] h (fun l hl => by simp at hl; rw [hl]; decide) (by decide)
  rw [rootV_one] at hRA hRB
  have hKc := fun W V h => CheckInclusion_ok W [99] 2 3 V [pJ] (rootV abc) (by decide) (by decide) (by decide) (by decide) h (by decide) hR32
  have hKd := fun W V h => CheckInclusion_ok W [100] 2 3 V [pJ] (rootV abc) (by decide) (by decide) (by decide) (by decide) h (by decide) hR32
  rw [chk_c] at hKc
  rw [chk_d] at hKd
  have hLa := fun W V h => CheckConsistency_ok W 1 (leafV [97]) 3 (rootV abc) V [leafV [98], leafV [99]] (by decide) (by decide) (by decide) (by decide) h (by decide) (leafV_length _) hR32
  have hLb := fun W V h => CheckConsistency_ok W 1 (leafV [98]) 3 (rootV abc) V [leafV [98], leafV [99]] (by decide) (by decide) (by decide) (by decide) h (by decide) (leafV_length _) hR32
  rw [cchk_a] at hLa
  rw [cchk_b] at hLb
  have HI2 := Lib.hid hI2; have HI3 := Lib.hid hI3; have HC1 := Lib.hid hC1; have HC0 := Lib.hid hC0; have HRT := Lib.hid hRT; have HRA := Lib.hid hRA; have HRB := Lib.hid hRB; have HKc := Lib.hid hKc; have HKd := Lib.hid hKd; have HLa := Lib.hid hLa; have HLb := Lib.hid hLb
  clear hI2 hI3 hC1 hC0 hRT hRA hRB hKc hKd hLa hLb
  have hal : (w.alloc (.cells (strs abc).toArray 9)).heap[w.heap.size]? = some (.cells (strs abc).toArray 9 (0, 0)) := heap_alloc_new w _
  have hr := range_of_row hal
  have T3 : Hid (Texts (w.alloc (.cells (strs abc).toArray 9)) (.slice (some ⟨w.heap.size, 0, none⟩) 3 3) abc) := Lib.hid ⟨_, 3, rfl, by decide, fun _ => ⟨_, 0, rfl, hr⟩⟩
  have T1 : Hid (Texts (w.alloc (.cells (strs abc).toArray 9)) (.slice (some ⟨w.heap.size, 0, none⟩) 1 3) [[97]]) := Lib.hid ⟨_, 3, rfl, by decide, fun _ => ⟨_, 0, rfl, fun j u hj => hr j u (by
    cases j with
    | zero => exact hj
    | succ j => simp [strs] at hj)⟩⟩
  have T2 : Hid (Texts (w.alloc (.cells (strs abc).toArray 9)) (.slice (some ⟨w.heap.size, 1, none⟩) 1 2) [[98]]) := Lib.hid ⟨_, 2, rfl, by decide, fun _ => ⟨_, 1, rfl, fun j u hj => by
    have := hr (1 + j) u (by
      cases j with
      | zero => exact hj
      | succ j => simp [strs] at hj)
    rwa [Nat.zero_add] at this⟩⟩
  have PT := Lib.hid (show Pure w (w.alloc (.cells (strs abc).toArray 9)) from (Turn.refl _ _).alloc _)
  clear hal hr
  go_enter Try.func33, Try.ntmps33
  go_wp2_with (refine wpList_buildAbc rfl rfl ?_)
  generalize w.alloc (.cells (strs abc).toArray 9) = w1 at *
  generalize w.heap.size = g at *
  go_wp2_with fail
  refine (HI2.out _ _ T3.out).mono ?_
  rintro e w2 ⟨r, rfl, hr, _, t2⟩
  have PT := Lib.hid (PT.out.pure t2); have T1 := Lib.hid (T1.out.pure t2); have T2 := Lib.hid (T2.out.pure t2); have T3 := Lib.hid (T3.out.pure t2)
  simp only [List.length_singleton] at hr ⊢
  obtain ⟨ra, rc, rfl, _⟩ := ownsRow_shape hr
  have HS := Lib.hid (Hashs.own hr (fun x hx => by simp at hx; rw [hx]; exact joinV_length _ _))
  clear hr
  clear t2
  go_wp2_with fail
  refine (HRT.out _ _ T3.out).mono ?_
  rintro e w3 ⟨rfl, t3⟩
  have PT := Lib.hid (PT.out.pure t3); have T1 := Lib.hid (T1.out.pure t3); have T2 := Lib.hid (T2.out.pure t3); have T3 := Lib.hid (T3.out.pure t3)
  have HS := Lib.hid (HS.out.pure t3)
  clear t3
  go_wp2_with fail
  refine (HKc.out _ _ HS.out).mono ?_
  rintro e w4 ⟨rfl, t4⟩
  have PT := Lib.hid (PT.out.pure t4); have T1 := Lib.hid (T1.out.pure t4); have T2 := Lib.hid (T2.out.pure t4); have T3 := Lib.hid (T3.out.pure t4)
  have HS := Lib.hid (HS.out.pure t4)
  clear t4
  go_wp2_with fail
  refine (HRT.out _ _ T3.out).mono ?_
  rintro e w5 ⟨rfl, t5⟩
  have PT := Lib.hid (PT.out.pure t5); have T1 := Lib.hid (T1.out.pure t5); have T2 := Lib.hid (T2.out.pure t5); have T3 := Lib.hid (T3.out.pure t5)
  have HS := Lib.hid (HS.out.pure t5)
  clear t5
  go_wp2_with fail
  refine (HKd.out _ _ HS.out).mono ?_
  rintro e w6 ⟨rfl, t6⟩
  have PT := Lib.hid (PT.out.pure t6); have T1 := Lib.hid (T1.out.pure t6); have T2 := Lib.hid (T2.out.pure t6); have T3 := Lib.hid (T3.out.pure t6)
  clear t6
  go_wp2_with fail
  refine (HC1.out _ _ T3.out).mono ?_
  rintro e w7 ⟨q, rfl, hq, _, t7⟩
  have PT := Lib.hid (PT.out.pure t7); have T1 := Lib.hid (T1.out.pure t7); have T2 := Lib.hid (T2.out.pure t7); have T3 := Lib.hid (T3.out.pure t7)
  simp only [List.length_cons, List.length_nil, Nat.zero_add, Nat.reduceAdd] at hq ⊢
  obtain ⟨qa, qc, rfl, _⟩ := ownsRow_shape hq
  have HQ := Lib.hid (Hashs.own hq (fun x hx => by simp at hx; rcases hx with rfl | rfl <;> exact leafV_length _))
  clear hq
  clear t7
  go_wp2_with fail
  refine (HRA.out _ _ T1.out).mono ?_
  rintro e w8 ⟨rfl, t8⟩
  have PT := Lib.hid (PT.out.pure t8); have T1 := Lib.hid (T1.out.pure t8); have T2 := Lib.hid (T2.out.pure t8); have T3 := Lib.hid (T3.out.pure t8)
  have HQ := Lib.hid (HQ.out.pure t8)
  clear t8
  go_wp2_with fail
  refine (HRT.out _ _ T3.out).mono ?_
  rintro e w10 ⟨rfl, t10⟩
  have PT := Lib.hid (PT.out.pure t10); have T1 := Lib.hid (T1.out.pure t10); have T2 := Lib.hid (T2.out.pure t10); have T3 := Lib.hid (T3.out.pure t10)
  have HQ := Lib.hid (HQ.out.pure t10)
  clear t10
  go_wp2_with fail
  refine (HLa.out _ _ HQ.out).mono ?_
  rintro e w11 ⟨rfl, t11⟩
  have PT := Lib.hid (PT.out.pure t11); have T1 := Lib.hid (T1.out.pure t11); have T2 := Lib.hid (T2.out.pure t11); have T3 := Lib.hid (T3.out.pure t11)
  have HQ := Lib.hid (HQ.out.pure t11)
  clear t11
  go_wp2_with fail
  refine (HRB.out _ _ T2.out).mono ?_
  rintro e w12 ⟨rfl, t12⟩
  have PT := Lib.hid (PT.out.pure t12); have T1 := Lib.hid (T1.out.pure t12); have T2 := Lib.hid (T2.out.pure t12); have T3 := Lib.hid (T3.out.pure t12)
  have HQ := Lib.hid (HQ.out.pure t12)
  clear t12
  go_wp2_with fail
  refine (HRT.out _ _ T3.out).mono ?_
  rintro e w13 ⟨rfl, t13⟩
  have PT := Lib.hid (PT.out.pure t13); have T1 := Lib.hid (T1.out.pure t13); have T2 := Lib.hid (T2.out.pure t13); have T3 := Lib.hid (T3.out.pure t13)
  have HQ := Lib.hid (HQ.out.pure t13)
  clear t13
  go_wp2_with fail
  refine (HLb.out _ _ HQ.out).mono ?_
  rintro e w14 ⟨rfl, t14⟩
  have PT := Lib.hid (PT.out.pure t14); have T1 := Lib.hid (T1.out.pure t14); have T2 := Lib.hid (T2.out.pure t14); have T3 := Lib.hid (T3.out.pure t14)
  clear t14
  go_wp2_with fail
  refine (HC0.out _ _ T3.out).mono ?_
  rintro e w15 ⟨r0, rfl, _, _, t15⟩
  have PT := Lib.hid (PT.out.pure t15); have T1 := Lib.hid (T1.out.pure t15); have T2 := Lib.hid (T2.out.pure t15); have T3 := Lib.hid (T3.out.pure t15)
  clear t15
  go_wp2_with fail
  refine (HI3.out _ _ T3.out).mono ?_
  rintro e w16 ⟨r1, rfl, _, _, t16⟩
  have PT := Lib.hid (PT.out.pure t16); have T1 := Lib.hid (T1.out.pure t16); have T2 := Lib.hid (T2.out.pure t16); have T3 := Lib.hid (T3.out.pure t16)
  clear t16
  clear T1 T2 T3 HI2 HI3 HC1 HC0 HRT HRA HRB HKc HKd HLa HLb HS HQ
  go_wp2_with fail
  refine (Num9_any _ 0).mono ?_
  rintro e wn ⟨rfl, rfl⟩
  go_wp2_with fail
  refine (Num9_any _ 0).mono ?_
  rintro e wn ⟨rfl, rfl⟩
  go_wp2_with fail
  refine (Num9_any _ 1001).mono ?_
  rintro e wn ⟨rfl, rfl⟩
  go_wp2_with fail
  refine (Num9_any _ 0).mono ?_
  rintro e wn ⟨rfl, rfl⟩
  go_wp2_with fail
  refine (Num9_any _ 0).mono ?_
  rintro e wn ⟨rfl, rfl⟩
  go_wp2_with fail
  refine (Num9_any _ 1001).mono ?_
  rintro e wn ⟨rfl, rfl⟩
  go_wp2_with fail
  refine (Num9_any _ 1000).mono ?_
  rintro e wn ⟨rfl, rfl⟩
  go_wp2_with fail
  refine (Num9_any _ 1000).mono ?_
  rintro e wn ⟨rfl, rfl⟩
  go_wp2
  go_ret
  exact ⟨rfl, PT.out⟩
end Go.Proofs.Ytjbigghjbcjelaa
