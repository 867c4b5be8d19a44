/- Chapter 10: the nodes that a smaller log and its whole share. -/
import Derived.Test.YtjbigghjbcjelaaRChk
namespace Go.Proofs.Ytjbigghjbcjelaa
open Go.RowKit

/-- The nodes that a smaller log and its whole share. -/
def subV (ls : List (List UInt8)) (m : Nat) (known : Bool) : List (List UInt8) :=
  if m = ls.length then (if known = true then [] else [rootV ls])
  else if _h : 2 ≤ ls.length then
    if m ≤ belowV ls.length then subV (ls.take (belowV ls.length)) m known ++ [rootV (ls.drop (belowV ls.length))]
    else subV (ls.drop (belowV ls.length)) (m - belowV ls.length) false ++ [rootV (ls.take (belowV ls.length))]
  else []
termination_by ls.length
decreasing_by
  · have := belowV_lt _h; simp; omega
  · have := belowV_pos ls.length; simp; omega
theorem subV_eq (ls : List (List UInt8)) (m : Nat) (known : Bool) (h : m = ls.length) : subV ls m known = if known = true then [] else [rootV ls] := by rw [subV, if_pos h]
theorem subV_left {ls : List (List UInt8)} {m : Nat} (known : Bool) (h : 2 ≤ ls.length) (hne : m ≠ ls.length) (hi : m ≤ belowV ls.length) : subV ls m known = subV (ls.take (belowV ls.length)) m known ++ [rootV (ls.drop (belowV ls.length))] := by
  rw [subV, if_neg hne, dif_pos h, if_pos hi]
theorem subV_right {ls : List (List UInt8)} {m : Nat} (known : Bool) (h : 2 ≤ ls.length) (hne : m ≠ ls.length) (hi : ¬ m ≤ belowV ls.length) : subV ls m known = subV (ls.drop (belowV ls.length)) (m - belowV ls.length) false ++ [rootV (ls.take (belowV ls.length))] := by
  rw [subV, if_neg hne, dif_pos h, if_neg hi]
theorem subV_len : ∀ (n : Nat) (ls : List (List UInt8)) (m : Nat) (known : Bool), ls.length = n → (subV ls m known).length ≤ n + 1 ∧ ∀ h ∈ subV ls m known, h.length = 32 := by
  intro n
  induction n using Nat.strongRecOn with
  | _ n ih =>
    intro ls m known hn
    by_cases he : m = ls.length
    · rw [subV_eq ls m known he]
      split
      · exact ⟨by simp, fun x hx => by simp at hx⟩
      · exact ⟨by simp, fun x hx => by simp at hx; rw [hx]; exact rootV_length _⟩
    · by_cases h2 : 2 ≤ ls.length
      · have hk1 := belowV_lt h2
        have hk0 := belowV_pos ls.length
        by_cases hi : m ≤ belowV ls.length
        · obtain ⟨a1, a2⟩ := ih (belowV ls.length) (by omega) (ls.take (belowV ls.length)) m known (by simp; omega)
          rw [subV_left known h2 he hi]
          refine ⟨by rw [List.length_append, List.length_singleton]; omega, fun x hx => ?_⟩
          rcases List.mem_append.1 hx with h | h
          · exact a2 x h
          · obtain rfl := List.mem_singleton.1 h; exact rootV_length _
        · obtain ⟨a1, a2⟩ := ih (ls.length - belowV ls.length) (by omega) (ls.drop (belowV ls.length)) (m - belowV ls.length) false (by simp)
          rw [subV_right known h2 he hi]
          refine ⟨by rw [List.length_append, List.length_singleton]; omega, fun x hx => ?_⟩
          rcases List.mem_append.1 hx with h | h
          · exact a2 x h
          · obtain rfl := List.mem_singleton.1 h; exact rootV_length _
      · rw [subV, if_neg he, dif_neg h2]
        exact ⟨Nat.zero_le _, fun x hx => by simp at hx⟩

set_option maxHeartbeats 1000000 in
theorem sub_eq (w : World) (ls : List (List UInt8)) (b o c n : Nat) (known : Bool) (hn : n = ls.length) (h1 : 1 ≤ n) (hc : n ≤ c) (hnl : n ≤ 4000000000000) (hf : Fits ls) (hr : w.rangeAt b o (strs ls)) :
    Calls Try.prog 53 #[.slice (some ⟨b, o, none⟩) n c, .int .i64 (n : Int), .bool known] w fun e w' => ∃ r, e = .returned r ∧ w'.ownsRow 0 28 32 r (subV ls n known).length (hrow (subV ls n known)) ∧ (∀ q, r.ownBlock = some q → w.heap.size ≤ q) ∧ Pure w w' := by
  obtain ⟨i28, z28, HI28, hz28, hsz, hby, hzs⟩ := parts28
  have hi := HI28.out
  have HRT := Lib.hid (Root_at n ls hn.symm w b o c hc (by omega) hf hr)
  rw [subV_eq ls n known hn]
  clear hr hn
  cases known with
  | true =>
    go_enter Try.func53, Try.ntmps53
    go_wp2
    go_ret
    exact ⟨_, rfl, World.ownsRow_nil _ _ _ _, fun q hq => by simp [Value.ownBlock] at hq, Turn.refl _ _⟩
  | false =>
    go_enter Try.func53, Try.ntmps53
    go_wp2_with fail
    refine HRT.out.mono ?_
    rintro e w1 ⟨rfl, t1⟩
    have P1 := Lib.hid t1
    clear t1
    go_wp2_with (refine wpList_buildSlice_one rfl 41 28 _ rfl i28 z28 32 (u8s (rootV ls)) Try.underlying41 hi hz28 hsz (by decide) (by decide) rfl (by rw [u8s_length, rootV_length]) ?_)
    go_ret
    refine ⟨_, rfl, ⟨by rw [hrow_length (fun x hx => by simp at hx; rw [hx]; exact rootV_length _)]; simp, .inr ⟨w1.heap.size, 1, (u8s (rootV ls)).toArray, rfl, Nat.zero_le _, heap_alloc_new _ _, Nat.le_refl _, by decide, by rw [List.size_toArray, u8s_length, rootV_length], by simp only [hrow, List.flatMap_cons, List.flatMap_nil, List.append_nil]; exact List.take_of_length_le (by rw [u8s_length, rootV_length]; omega)⟩⟩, fun q hq => ?_, (P1.out.alloc _)⟩
    obtain rfl : w1.heap.size = q := Option.some.inj hq
    exact P1.out.size

set_option maxRecDepth 100000 in
set_option maxHeartbeats 1000000 in
theorem sub_more (w : World) (ls : List (List UInt8)) (b o c i k : Nat) (known : Bool) (h2 : 2 ≤ ls.length) (hin : i < ls.length) (hc : ls.length ≤ c) (hn : ls.length ≤ 4000000000000) (hk : k = belowV ls.length) (hf : Fits ls) (hr : w.rangeAt b o (strs ls))
    (i1 : i ≤ k → ∀ W : World, W.rangeAt b o (strs (ls.take k)) → Calls Try.prog 53 #[.slice (some ⟨b, o, none⟩) k c, .int .i64 (i : Int), .bool known] W fun e w' => ∃ r, e = .returned r ∧ w'.ownsRow 0 28 32 r (subV (ls.take k) i known).length (hrow (subV (ls.take k) i known)) ∧ (∀ q, r.ownBlock = some q → W.heap.size ≤ q) ∧ Pure W w')
    (i2 : ¬ i ≤ k → ∀ W : World, W.rangeAt b (o + k) (strs (ls.drop k)) → Calls Try.prog 53 #[.slice (some ⟨b, o + k, none⟩) (ls.length - k) (c - k), .int .i64 ((i - k : Nat) : Int), .bool false] W fun e w' => ∃ r, e = .returned r ∧ w'.ownsRow 0 28 32 r (subV (ls.drop k) (i - k) false).length (hrow (subV (ls.drop k) (i - k) false)) ∧ (∀ q, r.ownBlock = some q → W.heap.size ≤ q) ∧ Pure W w') :
    Calls Try.prog 53 #[.slice (some ⟨b, o, none⟩) ls.length c, .int .i64 (i : Int), .bool known] w fun e w' => ∃ r, e = .returned r ∧ w'.ownsRow 0 28 32 r (subV ls i known).length (hrow (subV ls i known)) ∧ (∀ q, r.ownBlock = some q → w.heap.size ≤ q) ∧ Pure w w' := by
  obtain ⟨i28, z28, HI28, hz28, hsz, hby, hzs⟩ := parts28
  have hi := HI28.out
  have hk1 : k < ls.length := by rw [hk]; exact belowV_lt h2
  have hk0 : 0 < k := by rw [hk]; exact belowV_pos _
  have hr1 : w.rangeAt b o (strs (ls.take k)) := strs_take hr k
  have hr2 : w.rangeAt b (o + k) (strs (ls.drop k)) := fun j v hj => by
    rw [Nat.add_assoc]
    refine hr _ v ?_
    rw [strs, List.map_drop, List.getElem?_drop] at hj
    exact hj
  have hpl := subV_left (ls := ls) (m := i) known h2 (by omega)
  have hpr := subV_right (ls := ls) (m := i) known h2 (by omega)
  rw [← hk] at hpl hpr
  have hrtL := fun (W : World) (hW : W.rangeAt b o (strs (ls.take k))) => Root_at k (ls.take k) (by rw [List.length_take]; omega) W b o c (by omega) (by omega) (fun x hx => hf x (List.mem_of_mem_take hx)) hW
  have hrtR := fun (W : World) (hW : W.rangeAt b (o + k) (strs (ls.drop k))) => Root_at (ls.length - k) (ls.drop k) (by rw [List.length_drop]) W b (o + k) (c - k) (by omega) (by omega) (fun x hx => hf x (List.mem_of_mem_drop hx)) hW
  have hlenL := (subV_len k (ls.take k) i known (by rw [List.length_take]; omega)).1
  have hlenR := (subV_len (ls.length - k) (ls.drop k) (i - k) false (by rw [List.length_drop])).1
  have hbel := fun W => Below_any W ls.length h2 (by omega)
  rw [← hk] at hbel
  obtain ⟨n, hnn⟩ : ∃ n, n = ls.length := ⟨_, rfl⟩
  rw [← hnn] at hk1 hn hc h2 i2 hrtR hlenR hbel hin ⊢
  have HI := Lib.hid (And.intro i1 i2); clear i1 i2
  have HRT := Lib.hid (And.intro hrtL hrtR); clear hrtL hrtR
  have HR := Lib.hid (And.intro hr1 hr2); clear hr1 hr2 hr
  have HBEL := Lib.hid hbel; clear hbel
  have q1 : (i == n) = false := by simp; omega
  have q2 : ((i : Int) == (n : Int)) = false := by simp; omega
  have q5 : (0 : Int) ≤ k := by omega
  have q6 : (k : Int) ≤ n := by omega
  have q7 : (k : Int) ≤ c := by omega
  have q8 : ¬ c = k := by omega
  have q9 : ¬ c = 0 := by omega
  have HP := Lib.hid (And.intro hpl hpr); clear hpl hpr
  have HN := Lib.hid (And.intro hnn (And.intro hk1 hk0)); clear hnn hk
  by_cases hik : i ≤ k
  · have q3 : (i : Int) ≤ k := by omega
    have HPV := Lib.hid (HP.out.1 hik)
    clear hk1 hk0
    go_enter Try.func53, Try.ntmps53
    go_wp2_with fail
    refine (HBEL.out _).mono ?_
    rintro e w2 ⟨rfl, rfl⟩
    go_wp2_with fail
    refine wp_region_held_drew (S := fun _ => True) (by kernel_rfl) trivial (fun _ => ?_)
    have P4 := Lib.hid ((Turn.refl (fun _ => False) w2).drew)
    have HR4 := Lib.hid (show w2.drew.rangeAt b o (strs (ls.take k)) ∧ w2.drew.rangeAt b (o + k) (strs (ls.drop k)) from HR.out)
    generalize w2.drew = w4 at *
    refine wpAnyH_take (i := 0) (v := .slice (some ⟨b, o, none⟩) n c) rfl (by kernel_rfl) (by kernel_rfl) (by kernel_rfl) (fun _ _ _ h => h) (Or.inl ⟨by rfl, fun w hSw => by go_simp⟩) trivial ?_
    simp only [List.getElem_toArray, List.getElem_cons_zero, Act.put, List.setIfInBounds_toArray, List.set_cons_zero, List.set_cons_succ]
    refine wpAnyH_take (i := 1) (v := .int .i64 (k : Int)) rfl (by kernel_rfl) (by kernel_rfl) (by kernel_rfl) (fun _ _ _ h => h) (Or.inl ⟨by rfl, fun w hSw => by go_simp⟩) trivial ?_
    simp only [List.getElem_toArray, List.getElem_cons_succ, List.getElem_cons_zero, Act.put, List.setIfInBounds_toArray, List.set_cons_zero, List.set_cons_succ]
    refine wpAnyH_take (i := 2) (v := .slice (some ⟨b, o, none⟩) k c) rfl (by kernel_rfl) (by kernel_rfl) (by kernel_rfl) (fun _ _ _ h => h) (Or.inl ⟨by rfl, fun w hSw => by go_simp⟩) trivial ?_
    simp only [List.getElem_toArray, List.getElem_cons_succ, List.getElem_cons_zero, Act.put, List.setIfInBounds_toArray, List.set_cons_zero, List.set_cons_succ]
    refine wpAnyH_take (i := 3) (v := .int .i64 (i : Int)) rfl (by kernel_rfl) (by kernel_rfl) (by kernel_rfl) (fun _ _ _ h => h) (Or.inl ⟨by rfl, fun w hSw => by go_simp⟩) trivial ?_
    simp only [List.getElem_toArray, List.getElem_cons_succ, List.getElem_cons_zero, Act.put, List.setIfInBounds_toArray, List.set_cons_zero, List.set_cons_succ]
    refine wpAnyH_take (i := 4) (v := .bool known) rfl (by kernel_rfl) (by kernel_rfl) (by kernel_rfl) (fun _ _ _ h => h) (Or.inl ⟨by rfl, fun w hSw => by go_simp⟩) trivial ?_
    simp only [List.getElem_toArray, List.getElem_cons_succ, List.getElem_cons_zero, Act.put, List.setIfInBounds_toArray, List.set_cons_zero, List.set_cons_succ]
    refine wpAnyH_take (i := 6) (v := .slice (some ⟨b, o, none⟩) n c) rfl (by kernel_rfl) (by kernel_rfl) (by kernel_rfl) (fun _ _ _ h => h) (Or.inl ⟨by rfl, fun w hSw => by go_simp⟩) trivial ?_
    simp only [List.getElem_toArray, List.getElem_cons_succ, List.getElem_cons_zero, Act.put, List.setIfInBounds_toArray, List.set_cons_zero, List.set_cons_succ]
    refine wpAnyH_take (i := 7) (v := .int .i64 (k : Int)) rfl (by kernel_rfl) (by kernel_rfl) (by kernel_rfl) (fun _ _ _ h => h) (Or.inl ⟨by rfl, fun w hSw => by go_simp⟩) trivial ?_
    simp only [List.getElem_toArray, List.getElem_cons_succ, List.getElem_cons_zero, Act.put, List.setIfInBounds_toArray, List.set_cons_zero, List.set_cons_succ]
    refine wpAnyH_take (i := 8) (v := .slice (some ⟨b, o + k, none⟩) (n - k) (c - k)) rfl (by kernel_rfl) (by kernel_rfl) (by kernel_rfl) (fun _ _ _ h => h) (Or.inl ⟨by rfl, fun w hSw => by go_simp⟩) trivial ?_
    simp only [List.getElem_toArray, List.getElem_cons_succ, List.getElem_cons_zero, Act.put, List.setIfInBounds_toArray, List.set_cons_zero, List.set_cons_succ]
    refine wpAnyH_step (i := 5) (by kernel_rfl) rfl fun K hK => ?_
    go_simp
    refine (HI.out.1 hik _ HR4.out.1).mono ?_
    rintro e w5 ⟨r, rfl, hown, hlow, t5⟩
    obtain ⟨ra, rc, rfl, _⟩ := ownsRow_shape hown
    have HO := Lib.hid hown; have HLO := Lib.hid hlow; have P5 := Lib.hid (P4.out.pure t5)
    have HR5 := Lib.hid (And.intro (t5.range HR4.out.1 (fun e => e)) (t5.range HR4.out.2 (fun e => e)))
    refine hK.out _ _ trivial ?_
    clear hK K hown hlow
    try simp only [List.getElem_toArray, List.getElem_cons_succ, List.getElem_cons_zero, Act.put, List.setIfInBounds_toArray, List.set_cons_zero, List.set_cons_succ]
    refine wpAnyH_step (i := 9) (by kernel_rfl) rfl fun K hK => ?_
    go_simp
    refine (HRT.out.2 _ HR5.out.2).mono ?_
    rintro e w6 ⟨rfl, t6⟩
    have HO6 := Lib.hid (t6.own HO.out (fun _ _ e => e)); have P6 := Lib.hid (P5.out.pure t6)
    refine hK.out _ _ trivial ?_
    clear hK K HO P5 HR5
    try simp only [List.getElem_toArray, List.getElem_cons_succ, List.getElem_cons_zero, Act.put, List.setIfInBounds_toArray, List.set_cons_zero, List.set_cons_succ]
    refine wpAnyH_step (i := 10) (by kernel_rfl) rfl fun K hK => ?_
    refine step_buildHash rfl _ rfl (rootV (ls.drop k)) rfl (rootV_length _) ?_
    have t7 : Pure w6 (w6.alloc (.cells (u8s (rootV (ls.drop k))).toArray 28)) := (Turn.refl _ _).alloc _
    have HO7 := Lib.hid (t7.own HO6.out (fun _ _ e => e)); have P7 := Lib.hid (P6.out.pure t7)
    have HS7 : Hid (Src Try.prog 32 41 (.slice (some ⟨w6.heap.size, 0, none⟩) 1 1) 1 (u8s (rootV (ls.drop k))) (w6.alloc (.cells (u8s (rootV (ls.drop k))).toArray 28))) := Lib.hid (Src.ofSlice _ Try.underlying41 _ _ _ _ (by rw [u8s_length, rootV_length]) (World.news_of_block (heap_alloc_new w6 _)) (u8s_one _))
    refine hK.out _ _ trivial ?_
    clear hK K t7 HO6 P6
    generalize w6.alloc (.cells (u8s (rootV (ls.drop k))).toArray 28) = w7 at *
    generalize w6.heap.size = g7 at *
    try simp only [List.getElem_toArray, List.getElem_cons_succ, List.getElem_cons_zero, Act.put, List.setIfInBounds_toArray, List.set_cons_zero, List.set_cons_succ]
    refine wpAnyH_step (i := 11) (by kernel_rfl) rfl fun K hK => ?_
    refine step_append_turn rfl _ _ 41 41 28 rfl i28 z28 32 32 Try.underlying41 hi hz28 hsz hby hzs _ _ _ rfl HO7.out _ rfl 1 _ HS7.out (by omega) (by omega) ?_
    intro ao8 c8 w8 hown8 ht8 hb8
    have P8 := Lib.hid (P7.out.trans ht8 fun q hq e => by have := HLO.out q e; have := P4.out.size; omega : Pure w2 w8)
    have HB8 : Hid (∀ q, (Value.slice ao8 ((subV (ls.take k) i known).length + 1) c8).ownBlock = some q → w2.heap.size ≤ q) := Lib.hid fun q hq => by
      rcases hb8.out with e | e
      · rw [e] at hq; have := HLO.out q hq; have := P4.out.size; omega
      · rw [e] at hq; have e2 := Option.some.inj hq; have := P7.out.size; omega
    have hrow8 : hrow (subV (ls.take k) i known) ++ u8s (rootV (ls.drop k)) = hrow (subV (ls.take k) i known ++ [rootV (ls.drop k)]) := by rw [hrow_app]; simp [hrow]
    rw [hrow8] at hown8
    have HO8 := Lib.hid hown8
    refine hK.out _ _ trivial ?_
    clear hK K hown8 ht8 hb8 HS7 HO7 P7
    try simp only [List.getElem_toArray, List.getElem_cons_succ, List.getElem_cons_zero, Act.put, List.setIfInBounds_toArray, List.set_cons_zero, List.set_cons_succ]
    refine wpAnyH_take (i := 12) (v := .slice ao8 ((subV (ls.take k) i known).length + 1) c8) rfl (by kernel_rfl) (by kernel_rfl) (by kernel_rfl) (fun _ _ _ h => h) (Or.inl ⟨by rfl, fun w hSw => by go_simp⟩) trivial ?_
    simp only [List.getElem_toArray, List.getElem_cons_succ, List.getElem_cons_zero, Act.put, List.setIfInBounds_toArray, List.set_cons_zero, List.set_cons_succ]
    refine wpAnyH_done (by kernel_rfl) ?_ _
    go_wp2
    go_ret
    refine ⟨_, rfl, ?_, HB8.out, P8.out⟩
    rw [HPV.out, List.length_append]
    exact HO8.out
  · have q3 : ¬ ((i : Int) ≤ k) := by omega
    obtain ⟨d, hd⟩ : ∃ d, d = i - k := ⟨_, rfl⟩
    have i3 : IntKind.i64.wrap ((i : Int) - k) = (d : Int) := by rw [IntWalk.i64_in _ (by omega)]; omega
    have HPV := Lib.hid (HP.out.2 hik)
    rw [← hd] at HPV HI hlenR
    have HD := Lib.hid hd
    clear hk1 hk0 hd
    go_enter Try.func53, Try.ntmps53
    go_wp2_with fail
    refine (HBEL.out _).mono ?_
    rintro e w2 ⟨rfl, rfl⟩
    go_wp2_with fail
    refine wp_region_held_drew (S := fun _ => True) (by kernel_rfl) trivial (fun _ => ?_)
    have P4 := Lib.hid ((Turn.refl (fun _ => False) w2).drew)
    have HR4 := Lib.hid (show w2.drew.rangeAt b o (strs (ls.take k)) ∧ w2.drew.rangeAt b (o + k) (strs (ls.drop k)) from HR.out)
    generalize w2.drew = w4 at *
    refine wpAnyH_take (i := 0) (v := .slice (some ⟨b, o, none⟩) n c) rfl (by kernel_rfl) (by kernel_rfl) (by kernel_rfl) (fun _ _ _ h => h) (Or.inl ⟨by rfl, fun w hSw => by go_simp⟩) trivial ?_
    simp only [List.getElem_toArray, List.getElem_cons_zero, Act.put, List.setIfInBounds_toArray, List.set_cons_zero, List.set_cons_succ]
    refine wpAnyH_take (i := 1) (v := .int .i64 (k : Int)) rfl (by kernel_rfl) (by kernel_rfl) (by kernel_rfl) (fun _ _ _ h => h) (Or.inl ⟨by rfl, fun w hSw => by go_simp⟩) trivial ?_
    simp only [List.getElem_toArray, List.getElem_cons_succ, List.getElem_cons_zero, Act.put, List.setIfInBounds_toArray, List.set_cons_zero, List.set_cons_succ]
    refine wpAnyH_take (i := 2) (v := .slice (some ⟨b, o + k, none⟩) (n - k) (c - k)) rfl (by kernel_rfl) (by kernel_rfl) (by kernel_rfl) (fun _ _ _ h => h) (Or.inl ⟨by rfl, fun w hSw => by go_simp⟩) trivial ?_
    simp only [List.getElem_toArray, List.getElem_cons_succ, List.getElem_cons_zero, Act.put, List.setIfInBounds_toArray, List.set_cons_zero, List.set_cons_succ]
    refine wpAnyH_take (i := 3) (v := .int .i64 (i : Int)) rfl (by kernel_rfl) (by kernel_rfl) (by kernel_rfl) (fun _ _ _ h => h) (Or.inl ⟨by rfl, fun w hSw => by go_simp⟩) trivial ?_
    simp only [List.getElem_toArray, List.getElem_cons_succ, List.getElem_cons_zero, Act.put, List.setIfInBounds_toArray, List.set_cons_zero, List.set_cons_succ]
    refine wpAnyH_take (i := 4) (v := .int .i64 (k : Int)) rfl (by kernel_rfl) (by kernel_rfl) (by kernel_rfl) (fun _ _ _ h => h) (Or.inl ⟨by rfl, fun w hSw => by go_simp⟩) trivial ?_
    simp only [List.getElem_toArray, List.getElem_cons_succ, List.getElem_cons_zero, Act.put, List.setIfInBounds_toArray, List.set_cons_zero, List.set_cons_succ]
    refine wpAnyH_take (i := 5) (v := .int .i64 (d : Int)) rfl (by kernel_rfl) (by kernel_rfl) (by kernel_rfl) (fun _ _ _ h => h) (Or.inl ⟨by rfl, fun w hSw => by go_simp⟩) trivial ?_
    simp only [List.getElem_toArray, List.getElem_cons_succ, List.getElem_cons_zero, Act.put, List.setIfInBounds_toArray, List.set_cons_zero, List.set_cons_succ]
    refine wpAnyH_take (i := 7) (v := .slice (some ⟨b, o, none⟩) n c) rfl (by kernel_rfl) (by kernel_rfl) (by kernel_rfl) (fun _ _ _ h => h) (Or.inl ⟨by rfl, fun w hSw => by go_simp⟩) trivial ?_
    simp only [List.getElem_toArray, List.getElem_cons_succ, List.getElem_cons_zero, Act.put, List.setIfInBounds_toArray, List.set_cons_zero, List.set_cons_succ]
    refine wpAnyH_take (i := 8) (v := .int .i64 (k : Int)) rfl (by kernel_rfl) (by kernel_rfl) (by kernel_rfl) (fun _ _ _ h => h) (Or.inl ⟨by rfl, fun w hSw => by go_simp⟩) trivial ?_
    simp only [List.getElem_toArray, List.getElem_cons_succ, List.getElem_cons_zero, Act.put, List.setIfInBounds_toArray, List.set_cons_zero, List.set_cons_succ]
    refine wpAnyH_take (i := 9) (v := .slice (some ⟨b, o, none⟩) k c) rfl (by kernel_rfl) (by kernel_rfl) (by kernel_rfl) (fun _ _ _ h => h) (Or.inl ⟨by rfl, fun w hSw => by go_simp⟩) trivial ?_
    simp only [List.getElem_toArray, List.getElem_cons_succ, List.getElem_cons_zero, Act.put, List.setIfInBounds_toArray, List.set_cons_zero, List.set_cons_succ]
    refine wpAnyH_step (i := 6) (by kernel_rfl) rfl fun K hK => ?_
    go_simp
    refine (HI.out.2 (by omega) _ HR4.out.2).mono ?_
    rintro e w5 ⟨r, rfl, hown, hlow, t5⟩
    obtain ⟨ra, rc, rfl, _⟩ := ownsRow_shape hown
    have HO := Lib.hid hown; have HLO := Lib.hid hlow; have P5 := Lib.hid (P4.out.pure t5)
    have HR5 := Lib.hid (And.intro (t5.range HR4.out.1 (fun e => e)) (t5.range HR4.out.2 (fun e => e)))
    refine hK.out _ _ trivial ?_
    clear hK K hown hlow
    try simp only [List.getElem_toArray, List.getElem_cons_succ, List.getElem_cons_zero, Act.put, List.setIfInBounds_toArray, List.set_cons_zero, List.set_cons_succ]
    refine wpAnyH_step (i := 10) (by kernel_rfl) rfl fun K hK => ?_
    go_simp
    refine (HRT.out.1 _ HR5.out.1).mono ?_
    rintro e w6 ⟨rfl, t6⟩
    have HO6 := Lib.hid (t6.own HO.out (fun _ _ e => e)); have P6 := Lib.hid (P5.out.pure t6)
    refine hK.out _ _ trivial ?_
    clear hK K HO P5 HR5
    try simp only [List.getElem_toArray, List.getElem_cons_succ, List.getElem_cons_zero, Act.put, List.setIfInBounds_toArray, List.set_cons_zero, List.set_cons_succ]
    refine wpAnyH_step (i := 11) (by kernel_rfl) rfl fun K hK => ?_
    refine step_buildHash rfl _ rfl (rootV (ls.take k)) rfl (rootV_length _) ?_
    have t7 : Pure w6 (w6.alloc (.cells (u8s (rootV (ls.take k))).toArray 28)) := (Turn.refl _ _).alloc _
    have HO7 := Lib.hid (t7.own HO6.out (fun _ _ e => e)); have P7 := Lib.hid (P6.out.pure t7)
    have HS7 : Hid (Src Try.prog 32 41 (.slice (some ⟨w6.heap.size, 0, none⟩) 1 1) 1 (u8s (rootV (ls.take k))) (w6.alloc (.cells (u8s (rootV (ls.take k))).toArray 28))) := Lib.hid (Src.ofSlice _ Try.underlying41 _ _ _ _ (by rw [u8s_length, rootV_length]) (World.news_of_block (heap_alloc_new w6 _)) (u8s_one _))
    refine hK.out _ _ trivial ?_
    clear hK K t7 HO6 P6
    generalize w6.alloc (.cells (u8s (rootV (ls.take k))).toArray 28) = w7 at *
    generalize w6.heap.size = g7 at *
    try simp only [List.getElem_toArray, List.getElem_cons_succ, List.getElem_cons_zero, Act.put, List.setIfInBounds_toArray, List.set_cons_zero, List.set_cons_succ]
    refine wpAnyH_step (i := 12) (by kernel_rfl) rfl fun K hK => ?_
    refine step_append_turn rfl _ _ 41 41 28 rfl i28 z28 32 32 Try.underlying41 hi hz28 hsz hby hzs _ _ _ rfl HO7.out _ rfl 1 _ HS7.out (by omega) (by omega) ?_
    intro ao8 c8 w8 hown8 ht8 hb8
    have P8 := Lib.hid (P7.out.trans ht8 fun q hq e => by have := HLO.out q e; have := P4.out.size; omega : Pure w2 w8)
    have HB8 : Hid (∀ q, (Value.slice ao8 ((subV (ls.drop k) d false).length + 1) c8).ownBlock = some q → w2.heap.size ≤ q) := Lib.hid fun q hq => by
      rcases hb8.out with e | e
      · rw [e] at hq; have := HLO.out q hq; have := P4.out.size; omega
      · rw [e] at hq; have e2 := Option.some.inj hq; have := P7.out.size; omega
    have hrow8 : hrow (subV (ls.drop k) d false) ++ u8s (rootV (ls.take k)) = hrow (subV (ls.drop k) d false ++ [rootV (ls.take k)]) := by rw [hrow_app]; simp [hrow]
    rw [hrow8] at hown8
    have HO8 := Lib.hid hown8
    refine hK.out _ _ trivial ?_
    clear hK K hown8 ht8 hb8 HS7 HO7 P7
    try simp only [List.getElem_toArray, List.getElem_cons_succ, List.getElem_cons_zero, Act.put, List.setIfInBounds_toArray, List.set_cons_zero, List.set_cons_succ]
    refine wpAnyH_take (i := 13) (v := .slice ao8 ((subV (ls.drop k) d false).length + 1) c8) rfl (by kernel_rfl) (by kernel_rfl) (by kernel_rfl) (fun _ _ _ h => h) (Or.inl ⟨by rfl, fun w hSw => by go_simp⟩) trivial ?_
    simp only [List.getElem_toArray, List.getElem_cons_succ, List.getElem_cons_zero, Act.put, List.setIfInBounds_toArray, List.set_cons_zero, List.set_cons_succ]
    refine wpAnyH_done (by kernel_rfl) ?_ _
    go_wp2
    go_ret
    refine ⟨_, rfl, ?_, HB8.out, P8.out⟩
    rw [HPV.out, List.length_append]
    exact HO8.out

/-- The nodes that both share, of leaves that lie in a row. -/
theorem sub_at : ∀ (n : Nat) (ls : List (List UInt8)), ls.length = n → ∀ (w : World) (b o c m : Nat) (known : Bool), 1 ≤ m → m ≤ n → n ≤ c → n ≤ 4000000000000 → Fits ls → w.rangeAt b o (strs ls) →
    Calls Try.prog 53 #[.slice (some ⟨b, o, none⟩) n c, .int .i64 (m : Int), .bool known] w fun e w' => ∃ r, e = .returned r ∧ w'.ownsRow 0 28 32 r (subV ls m known).length (hrow (subV ls m known)) ∧ (∀ q, r.ownBlock = some q → w.heap.size ≤ q) ∧ Pure w w' := by
  intro n
  induction n using Nat.strongRecOn with
  | _ n ih =>
    intro ls hn w b o c m known h1 hmn hc hnl hf hr
    subst hn
    by_cases he : m = ls.length
    · subst he
      exact sub_eq w ls b o c _ known rfl h1 hc hnl hf hr
    · have h2 : 2 ≤ ls.length := by omega
      have hk1 := belowV_lt h2
      have hk0 := belowV_pos ls.length
      refine sub_more w ls b o c m (belowV ls.length) known h2 (by omega) hc hnl rfl hf hr (fun hle W hW => ?_) (fun hle W hW => ?_)
      · exact ih (belowV ls.length) hk1 (ls.take (belowV ls.length)) (by simp; omega) W b o c m known h1 hle (by omega) (by omega) (fun l hl => hf l (List.mem_of_mem_take hl)) hW
      · exact ih (ls.length - belowV ls.length) (by omega) (ls.drop (belowV ls.length)) (by simp) W b (o + belowV ls.length) (c - belowV ls.length) (m - belowV ls.length) false (by omega) (by omega) (by omega) (by omega) (fun l hl => hf l (List.mem_of_mem_drop hl)) hW

set_option maxHeartbeats 1000000 in
theorem rsub_eq (w : World) (ls : List (List UInt8)) (b o c n : Nat) (known : Bool) (hn : n = ls.length) (h1 : 1 ≤ n) (hc : n ≤ c) (hnl : n ≤ 4000000000000) (hf : Fits ls) (hr : w.rangeAt b o (strs ls)) :
    Calls Try.prog 54 #[.int .i64 (n : Int), .slice (some ⟨b, o, none⟩) n c, .bool known] w fun e w' => ∃ r, e = .returned r ∧ w'.ownsRow 0 28 32 r (subV ls n known).length (hrow (subV ls n known)) ∧ (∀ q, r.ownBlock = some q → w.heap.size ≤ q) ∧ Pure w w' := by
  obtain ⟨i28, z28, HI28, hz28, hsz, hby, hzs⟩ := parts28
  have hi := HI28.out
  have HRT := Lib.hid (RRoot_at n ls hn.symm w b o c hc (by omega) hf hr)
  rw [subV_eq ls n known hn]
  clear hr hn
  cases known with
  | true =>
    go_enter Try.func54, Try.ntmps54
    go_wp2
    go_ret
    exact ⟨_, rfl, World.ownsRow_nil _ _ _ _, fun q hq => by simp [Value.ownBlock] at hq, Turn.refl _ _⟩
  | false =>
    go_enter Try.func54, Try.ntmps54
    go_wp2_with fail
    refine HRT.out.mono ?_
    rintro e w1 ⟨rfl, t1⟩
    have P1 := Lib.hid t1
    clear t1
    go_wp2_with (refine wpList_buildSlice_one rfl 41 28 _ rfl i28 z28 32 (u8s (rootV ls)) Try.underlying41 hi hz28 hsz (by decide) (by decide) rfl (by rw [u8s_length, rootV_length]) ?_)
    go_ret
    refine ⟨_, rfl, ⟨by rw [hrow_length (fun x hx => by simp at hx; rw [hx]; exact rootV_length _)]; simp, .inr ⟨w1.heap.size, 1, (u8s (rootV ls)).toArray, rfl, Nat.zero_le _, heap_alloc_new _ _, Nat.le_refl _, by decide, by rw [List.size_toArray, u8s_length, rootV_length], by simp only [hrow, List.flatMap_cons, List.flatMap_nil, List.append_nil]; exact List.take_of_length_le (by rw [u8s_length, rootV_length]; omega)⟩⟩, fun q hq => ?_, (P1.out.alloc _)⟩
    obtain rfl : w1.heap.size = q := Option.some.inj hq
    exact P1.out.size

set_option maxRecDepth 100000 in
set_option maxHeartbeats 1000000 in
theorem rsub_more (w : World) (ls : List (List UInt8)) (b o c i k : Nat) (known : Bool) (h2 : 2 ≤ ls.length) (hin : i < ls.length) (hc : ls.length ≤ c) (hn : ls.length ≤ 4000000000000) (hk : k = belowV ls.length) (hf : Fits ls) (hr : w.rangeAt b o (strs ls))
    (i1 : i ≤ k → ∀ W : World, W.rangeAt b o (strs (ls.take k)) → Calls Try.prog 54 #[.int .i64 (i : Int), .slice (some ⟨b, o, none⟩) k c, .bool known] W fun e w' => ∃ r, e = .returned r ∧ w'.ownsRow 0 28 32 r (subV (ls.take k) i known).length (hrow (subV (ls.take k) i known)) ∧ (∀ q, r.ownBlock = some q → W.heap.size ≤ q) ∧ Pure W w')
    (i2 : ¬ i ≤ k → ∀ W : World, W.rangeAt b (o + k) (strs (ls.drop k)) → Calls Try.prog 54 #[.int .i64 ((i - k : Nat) : Int), .slice (some ⟨b, o + k, none⟩) (ls.length - k) (c - k), .bool false] W fun e w' => ∃ r, e = .returned r ∧ w'.ownsRow 0 28 32 r (subV (ls.drop k) (i - k) false).length (hrow (subV (ls.drop k) (i - k) false)) ∧ (∀ q, r.ownBlock = some q → W.heap.size ≤ q) ∧ Pure W w') :
    Calls Try.prog 54 #[.int .i64 (i : Int), .slice (some ⟨b, o, none⟩) ls.length c, .bool known] w fun e w' => ∃ r, e = .returned r ∧ w'.ownsRow 0 28 32 r (subV ls i known).length (hrow (subV ls i known)) ∧ (∀ q, r.ownBlock = some q → w.heap.size ≤ q) ∧ Pure w w' := by
  obtain ⟨i28, z28, HI28, hz28, hsz, hby, hzs⟩ := parts28
  have hi := HI28.out
  have hk1 : k < ls.length := by rw [hk]; exact belowV_lt h2
  have hk0 : 0 < k := by rw [hk]; exact belowV_pos _
  have hr1 : w.rangeAt b o (strs (ls.take k)) := strs_take hr k
  have hr2 : w.rangeAt b (o + k) (strs (ls.drop k)) := fun j v hj => by
    rw [Nat.add_assoc]
    refine hr _ v ?_
    rw [strs, List.map_drop, List.getElem?_drop] at hj
    exact hj
  have hpl := subV_left (ls := ls) (m := i) known h2 (by omega)
  have hpr := subV_right (ls := ls) (m := i) known h2 (by omega)
  rw [← hk] at hpl hpr
  have hrtL := fun (W : World) (hW : W.rangeAt b o (strs (ls.take k))) => RRoot_at k (ls.take k) (by rw [List.length_take]; omega) W b o c (by omega) (by omega) (fun x hx => hf x (List.mem_of_mem_take hx)) hW
  have hrtR := fun (W : World) (hW : W.rangeAt b (o + k) (strs (ls.drop k))) => RRoot_at (ls.length - k) (ls.drop k) (by rw [List.length_drop]) W b (o + k) (c - k) (by omega) (by omega) (fun x hx => hf x (List.mem_of_mem_drop hx)) hW
  have hlenL := (subV_len k (ls.take k) i known (by rw [List.length_take]; omega)).1
  have hlenR := (subV_len (ls.length - k) (ls.drop k) (i - k) false (by rw [List.length_drop])).1
  have hbel := fun W => cut_any W ls.length h2 (by omega)
  rw [← hk] at hbel
  obtain ⟨n, hnn⟩ : ∃ n, n = ls.length := ⟨_, rfl⟩
  rw [← hnn] at hk1 hn hc h2 i2 hrtR hlenR hbel hin ⊢
  have HI := Lib.hid (And.intro i1 i2); clear i1 i2
  have HRT := Lib.hid (And.intro hrtL hrtR); clear hrtL hrtR
  have HR := Lib.hid (And.intro hr1 hr2); clear hr1 hr2 hr
  have HBEL := Lib.hid hbel; clear hbel
  have q1 : (i == n) = false := by simp; omega
  have q2 : ((i : Int) == (n : Int)) = false := by simp; omega
  have q5 : (0 : Int) ≤ k := by omega
  have q6 : (k : Int) ≤ n := by omega
  have q7 : (k : Int) ≤ c := by omega
  have q8 : ¬ c = k := by omega
  have q9 : ¬ c = 0 := by omega
  have HP := Lib.hid (And.intro hpl hpr); clear hpl hpr
  have HN := Lib.hid (And.intro hnn (And.intro hk1 hk0)); clear hnn hk
  by_cases hik : i ≤ k
  · have q3 : (i : Int) ≤ k := by omega
    have HPV := Lib.hid (HP.out.1 hik)
    clear hk1 hk0
    go_enter Try.func54, Try.ntmps54
    go_wp2_with fail
    refine (HBEL.out _).mono ?_
    rintro e w2 ⟨rfl, rfl⟩
    go_wp2_with fail
    refine wp_region_held_drew (S := fun _ => True) (by kernel_rfl) trivial (fun _ => ?_)
    have P4 := Lib.hid ((Turn.refl (fun _ => False) w2).drew)
    have HR4 := Lib.hid (show w2.drew.rangeAt b o (strs (ls.take k)) ∧ w2.drew.rangeAt b (o + k) (strs (ls.drop k)) from HR.out)
    generalize w2.drew = w4 at *
    refine wpAnyH_take (i := 0) (v := .int .i64 (i : Int)) rfl (by kernel_rfl) (by kernel_rfl) (by kernel_rfl) (fun _ _ _ h => h) (Or.inl ⟨by rfl, fun w hSw => by go_simp⟩) trivial ?_
    simp only [List.getElem_toArray, List.getElem_cons_zero, Act.put, List.setIfInBounds_toArray, List.set_cons_zero, List.set_cons_succ]
    refine wpAnyH_take (i := 1) (v := .slice (some ⟨b, o, none⟩) n c) rfl (by kernel_rfl) (by kernel_rfl) (by kernel_rfl) (fun _ _ _ h => h) (Or.inl ⟨by rfl, fun w hSw => by go_simp⟩) trivial ?_
    simp only [List.getElem_toArray, List.getElem_cons_succ, List.getElem_cons_zero, Act.put, List.setIfInBounds_toArray, List.set_cons_zero, List.set_cons_succ]
    refine wpAnyH_take (i := 2) (v := .int .i64 (k : Int)) rfl (by kernel_rfl) (by kernel_rfl) (by kernel_rfl) (fun _ _ _ h => h) (Or.inl ⟨by rfl, fun w hSw => by go_simp⟩) trivial ?_
    simp only [List.getElem_toArray, List.getElem_cons_succ, List.getElem_cons_zero, Act.put, List.setIfInBounds_toArray, List.set_cons_zero, List.set_cons_succ]
    refine wpAnyH_take (i := 3) (v := .slice (some ⟨b, o, none⟩) k c) rfl (by kernel_rfl) (by kernel_rfl) (by kernel_rfl) (fun _ _ _ h => h) (Or.inl ⟨by rfl, fun w hSw => by go_simp⟩) trivial ?_
    simp only [List.getElem_toArray, List.getElem_cons_succ, List.getElem_cons_zero, Act.put, List.setIfInBounds_toArray, List.set_cons_zero, List.set_cons_succ]
    refine wpAnyH_take (i := 4) (v := .bool known) rfl (by kernel_rfl) (by kernel_rfl) (by kernel_rfl) (fun _ _ _ h => h) (Or.inl ⟨by rfl, fun w hSw => by go_simp⟩) trivial ?_
    simp only [List.getElem_toArray, List.getElem_cons_succ, List.getElem_cons_zero, Act.put, List.setIfInBounds_toArray, List.set_cons_zero, List.set_cons_succ]
    refine wpAnyH_take (i := 6) (v := .slice (some ⟨b, o, none⟩) n c) rfl (by kernel_rfl) (by kernel_rfl) (by kernel_rfl) (fun _ _ _ h => h) (Or.inl ⟨by rfl, fun w hSw => by go_simp⟩) trivial ?_
    simp only [List.getElem_toArray, List.getElem_cons_succ, List.getElem_cons_zero, Act.put, List.setIfInBounds_toArray, List.set_cons_zero, List.set_cons_succ]
    refine wpAnyH_take (i := 7) (v := .int .i64 (k : Int)) rfl (by kernel_rfl) (by kernel_rfl) (by kernel_rfl) (fun _ _ _ h => h) (Or.inl ⟨by rfl, fun w hSw => by go_simp⟩) trivial ?_
    simp only [List.getElem_toArray, List.getElem_cons_succ, List.getElem_cons_zero, Act.put, List.setIfInBounds_toArray, List.set_cons_zero, List.set_cons_succ]
    refine wpAnyH_take (i := 8) (v := .slice (some ⟨b, o + k, none⟩) (n - k) (c - k)) rfl (by kernel_rfl) (by kernel_rfl) (by kernel_rfl) (fun _ _ _ h => h) (Or.inl ⟨by rfl, fun w hSw => by go_simp⟩) trivial ?_
    simp only [List.getElem_toArray, List.getElem_cons_succ, List.getElem_cons_zero, Act.put, List.setIfInBounds_toArray, List.set_cons_zero, List.set_cons_succ]
    refine wpAnyH_step (i := 5) (by kernel_rfl) rfl fun K hK => ?_
    go_simp
    refine (HI.out.1 hik _ HR4.out.1).mono ?_
    rintro e w5 ⟨r, rfl, hown, hlow, t5⟩
    obtain ⟨ra, rc, rfl, _⟩ := ownsRow_shape hown
    have HO := Lib.hid hown; have HLO := Lib.hid hlow; have P5 := Lib.hid (P4.out.pure t5)
    have HR5 := Lib.hid (And.intro (t5.range HR4.out.1 (fun e => e)) (t5.range HR4.out.2 (fun e => e)))
    refine hK.out _ _ trivial ?_
    clear hK K hown hlow
    try simp only [List.getElem_toArray, List.getElem_cons_succ, List.getElem_cons_zero, Act.put, List.setIfInBounds_toArray, List.set_cons_zero, List.set_cons_succ]
    refine wpAnyH_step (i := 9) (by kernel_rfl) rfl fun K hK => ?_
    go_simp
    refine (HRT.out.2 _ HR5.out.2).mono ?_
    rintro e w6 ⟨rfl, t6⟩
    have HO6 := Lib.hid (t6.own HO.out (fun _ _ e => e)); have P6 := Lib.hid (P5.out.pure t6)
    refine hK.out _ _ trivial ?_
    clear hK K HO P5 HR5
    try simp only [List.getElem_toArray, List.getElem_cons_succ, List.getElem_cons_zero, Act.put, List.setIfInBounds_toArray, List.set_cons_zero, List.set_cons_succ]
    refine wpAnyH_step (i := 10) (by kernel_rfl) rfl fun K hK => ?_
    refine step_buildHash rfl _ rfl (rootV (ls.drop k)) rfl (rootV_length _) ?_
    have t7 : Pure w6 (w6.alloc (.cells (u8s (rootV (ls.drop k))).toArray 28)) := (Turn.refl _ _).alloc _
    have HO7 := Lib.hid (t7.own HO6.out (fun _ _ e => e)); have P7 := Lib.hid (P6.out.pure t7)
    have HS7 : Hid (Src Try.prog 32 41 (.slice (some ⟨w6.heap.size, 0, none⟩) 1 1) 1 (u8s (rootV (ls.drop k))) (w6.alloc (.cells (u8s (rootV (ls.drop k))).toArray 28))) := Lib.hid (Src.ofSlice _ Try.underlying41 _ _ _ _ (by rw [u8s_length, rootV_length]) (World.news_of_block (heap_alloc_new w6 _)) (u8s_one _))
    refine hK.out _ _ trivial ?_
    clear hK K t7 HO6 P6
    generalize w6.alloc (.cells (u8s (rootV (ls.drop k))).toArray 28) = w7 at *
    generalize w6.heap.size = g7 at *
    try simp only [List.getElem_toArray, List.getElem_cons_succ, List.getElem_cons_zero, Act.put, List.setIfInBounds_toArray, List.set_cons_zero, List.set_cons_succ]
    refine wpAnyH_step (i := 11) (by kernel_rfl) rfl fun K hK => ?_
    refine step_append_turn rfl _ _ 41 41 28 rfl i28 z28 32 32 Try.underlying41 hi hz28 hsz hby hzs _ _ _ rfl HO7.out _ rfl 1 _ HS7.out (by omega) (by omega) ?_
    intro ao8 c8 w8 hown8 ht8 hb8
    have P8 := Lib.hid (P7.out.trans ht8 fun q hq e => by have := HLO.out q e; have := P4.out.size; omega : Pure w2 w8)
    have HB8 : Hid (∀ q, (Value.slice ao8 ((subV (ls.take k) i known).length + 1) c8).ownBlock = some q → w2.heap.size ≤ q) := Lib.hid fun q hq => by
      rcases hb8.out with e | e
      · rw [e] at hq; have := HLO.out q hq; have := P4.out.size; omega
      · rw [e] at hq; have e2 := Option.some.inj hq; have := P7.out.size; omega
    have hrow8 : hrow (subV (ls.take k) i known) ++ u8s (rootV (ls.drop k)) = hrow (subV (ls.take k) i known ++ [rootV (ls.drop k)]) := by rw [hrow_app]; simp [hrow]
    rw [hrow8] at hown8
    have HO8 := Lib.hid hown8
    refine hK.out _ _ trivial ?_
    clear hK K hown8 ht8 hb8 HS7 HO7 P7
    try simp only [List.getElem_toArray, List.getElem_cons_succ, List.getElem_cons_zero, Act.put, List.setIfInBounds_toArray, List.set_cons_zero, List.set_cons_succ]
    refine wpAnyH_take (i := 12) (v := .slice ao8 ((subV (ls.take k) i known).length + 1) c8) rfl (by kernel_rfl) (by kernel_rfl) (by kernel_rfl) (fun _ _ _ h => h) (Or.inl ⟨by rfl, fun w hSw => by go_simp⟩) trivial ?_
    simp only [List.getElem_toArray, List.getElem_cons_succ, List.getElem_cons_zero, Act.put, List.setIfInBounds_toArray, List.set_cons_zero, List.set_cons_succ]
    refine wpAnyH_done (by kernel_rfl) ?_ _
    go_wp2
    go_ret
    refine ⟨_, rfl, ?_, HB8.out, P8.out⟩
    rw [HPV.out, List.length_append]
    exact HO8.out
  · have q3 : ¬ ((i : Int) ≤ k) := by omega
    obtain ⟨d, hd⟩ : ∃ d, d = i - k := ⟨_, rfl⟩
    have i3 : IntKind.i64.wrap ((i : Int) - k) = (d : Int) := by rw [IntWalk.i64_in _ (by omega)]; omega
    have HPV := Lib.hid (HP.out.2 hik)
    rw [← hd] at HPV HI hlenR
    have HD := Lib.hid hd
    clear hk1 hk0 hd
    go_enter Try.func54, Try.ntmps54
    go_wp2_with fail
    refine (HBEL.out _).mono ?_
    rintro e w2 ⟨rfl, rfl⟩
    go_wp2_with fail
    refine wp_region_held_drew (S := fun _ => True) (by kernel_rfl) trivial (fun _ => ?_)
    have P4 := Lib.hid ((Turn.refl (fun _ => False) w2).drew)
    have HR4 := Lib.hid (show w2.drew.rangeAt b o (strs (ls.take k)) ∧ w2.drew.rangeAt b (o + k) (strs (ls.drop k)) from HR.out)
    generalize w2.drew = w4 at *
    refine wpAnyH_take (i := 0) (v := .int .i64 (i : Int)) rfl (by kernel_rfl) (by kernel_rfl) (by kernel_rfl) (fun _ _ _ h => h) (Or.inl ⟨by rfl, fun w hSw => by go_simp⟩) trivial ?_
    simp only [List.getElem_toArray, List.getElem_cons_zero, Act.put, List.setIfInBounds_toArray, List.set_cons_zero, List.set_cons_succ]
    refine wpAnyH_take (i := 1) (v := .int .i64 (k : Int)) rfl (by kernel_rfl) (by kernel_rfl) (by kernel_rfl) (fun _ _ _ h => h) (Or.inl ⟨by rfl, fun w hSw => by go_simp⟩) trivial ?_
    simp only [List.getElem_toArray, List.getElem_cons_succ, List.getElem_cons_zero, Act.put, List.setIfInBounds_toArray, List.set_cons_zero, List.set_cons_succ]
    refine wpAnyH_take (i := 2) (v := .int .i64 (d : Int)) rfl (by kernel_rfl) (by kernel_rfl) (by kernel_rfl) (fun _ _ _ h => h) (Or.inl ⟨by rfl, fun w hSw => by go_simp⟩) trivial ?_
    simp only [List.getElem_toArray, List.getElem_cons_succ, List.getElem_cons_zero, Act.put, List.setIfInBounds_toArray, List.set_cons_zero, List.set_cons_succ]
    refine wpAnyH_take (i := 3) (v := .slice (some ⟨b, o, none⟩) n c) rfl (by kernel_rfl) (by kernel_rfl) (by kernel_rfl) (fun _ _ _ h => h) (Or.inl ⟨by rfl, fun w hSw => by go_simp⟩) trivial ?_
    simp only [List.getElem_toArray, List.getElem_cons_succ, List.getElem_cons_zero, Act.put, List.setIfInBounds_toArray, List.set_cons_zero, List.set_cons_succ]
    refine wpAnyH_take (i := 4) (v := .int .i64 (k : Int)) rfl (by kernel_rfl) (by kernel_rfl) (by kernel_rfl) (fun _ _ _ h => h) (Or.inl ⟨by rfl, fun w hSw => by go_simp⟩) trivial ?_
    simp only [List.getElem_toArray, List.getElem_cons_succ, List.getElem_cons_zero, Act.put, List.setIfInBounds_toArray, List.set_cons_zero, List.set_cons_succ]
    refine wpAnyH_take (i := 5) (v := .slice (some ⟨b, o + k, none⟩) (n - k) (c - k)) rfl (by kernel_rfl) (by kernel_rfl) (by kernel_rfl) (fun _ _ _ h => h) (Or.inl ⟨by rfl, fun w hSw => by go_simp⟩) trivial ?_
    simp only [List.getElem_toArray, List.getElem_cons_succ, List.getElem_cons_zero, Act.put, List.setIfInBounds_toArray, List.set_cons_zero, List.set_cons_succ]
    refine wpAnyH_take (i := 7) (v := .slice (some ⟨b, o, none⟩) n c) rfl (by kernel_rfl) (by kernel_rfl) (by kernel_rfl) (fun _ _ _ h => h) (Or.inl ⟨by rfl, fun w hSw => by go_simp⟩) trivial ?_
    simp only [List.getElem_toArray, List.getElem_cons_succ, List.getElem_cons_zero, Act.put, List.setIfInBounds_toArray, List.set_cons_zero, List.set_cons_succ]
    refine wpAnyH_take (i := 8) (v := .int .i64 (k : Int)) rfl (by kernel_rfl) (by kernel_rfl) (by kernel_rfl) (fun _ _ _ h => h) (Or.inl ⟨by rfl, fun w hSw => by go_simp⟩) trivial ?_
    simp only [List.getElem_toArray, List.getElem_cons_succ, List.getElem_cons_zero, Act.put, List.setIfInBounds_toArray, List.set_cons_zero, List.set_cons_succ]
    refine wpAnyH_take (i := 9) (v := .slice (some ⟨b, o, none⟩) k c) rfl (by kernel_rfl) (by kernel_rfl) (by kernel_rfl) (fun _ _ _ h => h) (Or.inl ⟨by rfl, fun w hSw => by go_simp⟩) trivial ?_
    simp only [List.getElem_toArray, List.getElem_cons_succ, List.getElem_cons_zero, Act.put, List.setIfInBounds_toArray, List.set_cons_zero, List.set_cons_succ]
    refine wpAnyH_step (i := 6) (by kernel_rfl) rfl fun K hK => ?_
    go_simp
    refine (HI.out.2 (by omega) _ HR4.out.2).mono ?_
    rintro e w5 ⟨r, rfl, hown, hlow, t5⟩
    obtain ⟨ra, rc, rfl, _⟩ := ownsRow_shape hown
    have HO := Lib.hid hown; have HLO := Lib.hid hlow; have P5 := Lib.hid (P4.out.pure t5)
    have HR5 := Lib.hid (And.intro (t5.range HR4.out.1 (fun e => e)) (t5.range HR4.out.2 (fun e => e)))
    refine hK.out _ _ trivial ?_
    clear hK K hown hlow
    try simp only [List.getElem_toArray, List.getElem_cons_succ, List.getElem_cons_zero, Act.put, List.setIfInBounds_toArray, List.set_cons_zero, List.set_cons_succ]
    refine wpAnyH_step (i := 10) (by kernel_rfl) rfl fun K hK => ?_
    go_simp
    refine (HRT.out.1 _ HR5.out.1).mono ?_
    rintro e w6 ⟨rfl, t6⟩
    have HO6 := Lib.hid (t6.own HO.out (fun _ _ e => e)); have P6 := Lib.hid (P5.out.pure t6)
    refine hK.out _ _ trivial ?_
    clear hK K HO P5 HR5
    try simp only [List.getElem_toArray, List.getElem_cons_succ, List.getElem_cons_zero, Act.put, List.setIfInBounds_toArray, List.set_cons_zero, List.set_cons_succ]
    refine wpAnyH_step (i := 11) (by kernel_rfl) rfl fun K hK => ?_
    refine step_buildHash rfl _ rfl (rootV (ls.take k)) rfl (rootV_length _) ?_
    have t7 : Pure w6 (w6.alloc (.cells (u8s (rootV (ls.take k))).toArray 28)) := (Turn.refl _ _).alloc _
    have HO7 := Lib.hid (t7.own HO6.out (fun _ _ e => e)); have P7 := Lib.hid (P6.out.pure t7)
    have HS7 : Hid (Src Try.prog 32 41 (.slice (some ⟨w6.heap.size, 0, none⟩) 1 1) 1 (u8s (rootV (ls.take k))) (w6.alloc (.cells (u8s (rootV (ls.take k))).toArray 28))) := Lib.hid (Src.ofSlice _ Try.underlying41 _ _ _ _ (by rw [u8s_length, rootV_length]) (World.news_of_block (heap_alloc_new w6 _)) (u8s_one _))
    refine hK.out _ _ trivial ?_
    clear hK K t7 HO6 P6
    generalize w6.alloc (.cells (u8s (rootV (ls.take k))).toArray 28) = w7 at *
    generalize w6.heap.size = g7 at *
    try simp only [List.getElem_toArray, List.getElem_cons_succ, List.getElem_cons_zero, Act.put, List.setIfInBounds_toArray, List.set_cons_zero, List.set_cons_succ]
    refine wpAnyH_step (i := 12) (by kernel_rfl) rfl fun K hK => ?_
    refine step_append_turn rfl _ _ 41 41 28 rfl i28 z28 32 32 Try.underlying41 hi hz28 hsz hby hzs _ _ _ rfl HO7.out _ rfl 1 _ HS7.out (by omega) (by omega) ?_
    intro ao8 c8 w8 hown8 ht8 hb8
    have P8 := Lib.hid (P7.out.trans ht8 fun q hq e => by have := HLO.out q e; have := P4.out.size; omega : Pure w2 w8)
    have HB8 : Hid (∀ q, (Value.slice ao8 ((subV (ls.drop k) d false).length + 1) c8).ownBlock = some q → w2.heap.size ≤ q) := Lib.hid fun q hq => by
      rcases hb8.out with e | e
      · rw [e] at hq; have := HLO.out q hq; have := P4.out.size; omega
      · rw [e] at hq; have e2 := Option.some.inj hq; have := P7.out.size; omega
    have hrow8 : hrow (subV (ls.drop k) d false) ++ u8s (rootV (ls.take k)) = hrow (subV (ls.drop k) d false ++ [rootV (ls.take k)]) := by rw [hrow_app]; simp [hrow]
    rw [hrow8] at hown8
    have HO8 := Lib.hid hown8
    refine hK.out _ _ trivial ?_
    clear hK K hown8 ht8 hb8 HS7 HO7 P7
    try simp only [List.getElem_toArray, List.getElem_cons_succ, List.getElem_cons_zero, Act.put, List.setIfInBounds_toArray, List.set_cons_zero, List.set_cons_succ]
    refine wpAnyH_take (i := 13) (v := .slice ao8 ((subV (ls.drop k) d false).length + 1) c8) rfl (by kernel_rfl) (by kernel_rfl) (by kernel_rfl) (fun _ _ _ h => h) (Or.inl ⟨by rfl, fun w hSw => by go_simp⟩) trivial ?_
    simp only [List.getElem_toArray, List.getElem_cons_succ, List.getElem_cons_zero, Act.put, List.setIfInBounds_toArray, List.set_cons_zero, List.set_cons_succ]
    refine wpAnyH_done (by kernel_rfl) ?_ _
    go_wp2
    go_ret
    refine ⟨_, rfl, ?_, HB8.out, P8.out⟩
    rw [HPV.out, List.length_append]
    exact HO8.out

/-- The nodes that both share, of leaves that lie in a row. -/
theorem rsub_at : ∀ (n : Nat) (ls : List (List UInt8)), ls.length = n → ∀ (w : World) (b o c m : Nat) (known : Bool), 1 ≤ m → m ≤ n → n ≤ c → n ≤ 4000000000000 → Fits ls → w.rangeAt b o (strs ls) →
    Calls Try.prog 54 #[.int .i64 (m : Int), .slice (some ⟨b, o, none⟩) n c, .bool known] w fun e w' => ∃ r, e = .returned r ∧ w'.ownsRow 0 28 32 r (subV ls m known).length (hrow (subV ls m known)) ∧ (∀ q, r.ownBlock = some q → w.heap.size ≤ q) ∧ Pure w w' := by
  intro n
  induction n using Nat.strongRecOn with
  | _ n ih =>
    intro ls hn w b o c m known h1 hmn hc hnl hf hr
    subst hn
    by_cases he : m = ls.length
    · subst he
      exact rsub_eq w ls b o c _ known rfl h1 hc hnl hf hr
    · have h2 : 2 ≤ ls.length := by omega
      have hk1 := belowV_lt h2
      have hk0 := belowV_pos ls.length
      refine rsub_more w ls b o c m (belowV ls.length) known h2 (by omega) hc hnl rfl hf hr (fun hle W hW => ?_) (fun hle W hW => ?_)
      · exact ih (belowV ls.length) hk1 (ls.take (belowV ls.length)) (by simp; omega) W b o c m known h1 hle (by omega) (by omega) (fun l hl => hf l (List.mem_of_mem_take hl)) hW
      · exact ih (ls.length - belowV ls.length) (by omega) (ls.drop (belowV ls.length)) (by simp) W b (o + belowV ls.length) (c - belowV ls.length) (m - belowV ls.length) false (by omega) (by omega) (by omega) (by omega) (fun l hl => hf l (List.mem_of_mem_drop hl)) hW
end Go.Proofs.Ytjbigghjbcjelaa
