/- Chapter 10: the nodes beside a leaf's way. -/
import Derived.Test.YtjbigghjbcjelaaLend
namespace Go.Proofs.Ytjbigghjbcjelaa
open Go.RowKit

/-- The nodes beside a leaf's way, from it up. -/
def pathV (ls : List (List UInt8)) (i : Nat) : List (List UInt8) :=
  if _h : 2 ≤ ls.length then
    if i < belowV ls.length then pathV (ls.take (belowV ls.length)) i ++ [rootV (ls.drop (belowV ls.length))]
    else pathV (ls.drop (belowV ls.length)) (i - belowV ls.length) ++ [rootV (ls.take (belowV ls.length))]
  else []
termination_by ls.length
decreasing_by
  · have := belowV_lt _h; simp; omega
  · have := belowV_pos ls.length; simp; omega
theorem pathV_one (ls : List (List UInt8)) (i : Nat) (h : ¬ 2 ≤ ls.length) : pathV ls i = [] := by rw [pathV, dif_neg h]
theorem pathV_left {ls : List (List UInt8)} {i : Nat} (h : 2 ≤ ls.length) (hi : i < belowV ls.length) : pathV ls i = pathV (ls.take (belowV ls.length)) i ++ [rootV (ls.drop (belowV ls.length))] := by
  rw [pathV, dif_pos h, if_pos hi]
theorem pathV_right {ls : List (List UInt8)} {i : Nat} (h : 2 ≤ ls.length) (hi : ¬ i < belowV ls.length) : pathV ls i = pathV (ls.drop (belowV ls.length)) (i - belowV ls.length) ++ [rootV (ls.take (belowV ls.length))] := by
  rw [pathV, dif_pos h, if_neg hi]
theorem pathV_len : ∀ (m : Nat) (ls : List (List UInt8)) (i : Nat), ls.length = m → (pathV ls i).length ≤ m ∧ ∀ h ∈ pathV ls i, h.length = 32 := by
  intro m
  induction m using Nat.strongRecOn with
  | _ m ih =>
    intro ls i hm
    by_cases h2 : 2 ≤ ls.length
    · have hk1 := belowV_lt h2
      have hk0 := belowV_pos ls.length
      by_cases hi : i < belowV ls.length
      · obtain ⟨a1, a2⟩ := ih (belowV ls.length) (by omega) (ls.take (belowV ls.length)) i (by simp; omega)
        rw [pathV_left h2 hi]
        refine ⟨by rw [List.length_append, List.length_singleton]; omega, fun x hx => ?_⟩
        rcases List.mem_append.1 hx with h | h
        · exact a2 x h
        · obtain rfl := List.mem_singleton.1 h; exact rootV_length _
      · obtain ⟨a1, a2⟩ := ih (ls.length - belowV ls.length) (by omega) (ls.drop (belowV ls.length)) (i - belowV ls.length) (by simp)
        rw [pathV_right h2 hi]
        refine ⟨by rw [List.length_append, List.length_singleton]; omega, fun x hx => ?_⟩
        rcases List.mem_append.1 hx with h | h
        · exact a2 x h
        · obtain rfl := List.mem_singleton.1 h; exact rootV_length _
    · rw [pathV_one ls i h2]
      exact ⟨Nat.zero_le _, fun x hx => by simp at hx⟩
/-- Hashes in a row. -/
def hrow (hs : List (List UInt8)) : List Value := hs.flatMap u8s
theorem hrow_app (a b : List (List UInt8)) : hrow (a ++ b) = hrow a ++ hrow b := by simp [hrow]
theorem all28 : (Try.prog.info? 28).map (fun i => (i.zero, i.size, i.bytes)) = some (some (.agg (u8s (List.replicate 32 0)).toArray), 32, 32) := by kernel_rfl
theorem parts28 : ∃ i z, Hid (Try.prog.info? 28 = some i) ∧ i.zero = some z ∧ i.size = 32 ∧ i.bytes = 32 ∧ z.cells.size = 32 := by
  have h := all28
  cases hi : Try.prog.info? 28 with
  | none => rw [hi] at h; simp at h
  | some i =>
    rw [hi] at h
    simp only [Option.map_some, Option.some.injEq, Prod.mk.injEq] at h
    exact ⟨i, _, Lib.hid rfl, h.1, h.2.1, h.2.2, by simp [Value.cells, u8s]⟩
/-- A row of one hash, in a region that draws its order. -/
theorem step_buildHash {ops : Array Oper} {o : Oper} {a : Act} {w : World} {K : Act → World → Prop} {Q : Exit → Act → World → Prop} {E : Prop} (hgd : o.guard = none) (x : Operand) (ho : o.op = .buildSlice 41 1 #[(0, x)])
    (l : List UInt8) (hx : a.eval x = hv l) (hl : l.length = 32) (h : K (a.put o.dst (.slice (some ⟨w.heap.size, 0, none⟩) 1 1)) (w.alloc (.cells (u8s l).toArray 28))) :
    if Region.wanted o (yielded ops a.tmps) = true then Oper.wp Try.prog o a w K Q else E := by
  have hw : Region.wanted o (yielded ops a.tmps) = true := by simp [Region.wanted, hgd]
  rw [if_pos hw]
  obtain ⟨i, z, hi, hz, hs, hb, hzs⟩ := parts28
  refine wp_buildSlice 41 28 1 #[(0, x)] ho (u8s l).toArray i z Try.underlying41 hi.out hz (by rw [hs]; omega) (by rw [hs]; omega) ?_ h
  rw [hs]
  have := fill_one 32 (u8s l) ((Array.range (1 * 32)).map (z.cells[· % z.cells.size]!)) (by rw [u8s_length, hl]) (by simp)
  simpa [hx] using this

set_option maxHeartbeats 400000 in
theorem path_one (w : World) (ao : Option Addr) (c : Nat) (i : Nat) : Calls Try.prog 48 #[.slice ao 1 c, .int .i64 (i : Int)] w fun e w' => e = .returned (.slice none 0 0) ∧ w' = w := by
  go_enter Try.func48, Try.ntmps48
  go_wp2
  go_ret
  exact ⟨rfl, rfl⟩

set_option maxRecDepth 100000 in
set_option maxHeartbeats 1000000 in
theorem path_more (w : World) (ls : List (List UInt8)) (b o c i k : Nat) (h2 : 2 ≤ ls.length) (hc : ls.length ≤ c) (hn : ls.length ≤ 4000000000000) (hi0 : i ≤ 4000000000000) (hk : k = belowV ls.length) (hf : Fits ls) (hr : w.rangeAt b o (strs ls))
    (i1 : ∀ W : World, W.rangeAt b o (strs (ls.take k)) → Calls Try.prog 48 #[.slice (some ⟨b, o, none⟩) k c, .int .i64 (i : Int)] W fun e w' => ∃ r, e = .returned r ∧ w'.ownsRow 0 28 32 r (pathV (ls.take k) i).length (hrow (pathV (ls.take k) i)) ∧ (∀ q, r.ownBlock = some q → W.heap.size ≤ q) ∧ Pure W w')
    (i2 : ∀ W : World, W.rangeAt b (o + k) (strs (ls.drop k)) → Calls Try.prog 48 #[.slice (some ⟨b, o + k, none⟩) (ls.length - k) (c - k), .int .i64 ((i - k : Nat) : Int)] W fun e w' => ∃ r, e = .returned r ∧ w'.ownsRow 0 28 32 r (pathV (ls.drop k) (i - k)).length (hrow (pathV (ls.drop k) (i - k))) ∧ (∀ q, r.ownBlock = some q → W.heap.size ≤ q) ∧ Pure W w') :
    Calls Try.prog 48 #[.slice (some ⟨b, o, none⟩) ls.length c, .int .i64 (i : Int)] w fun e w' => ∃ r, e = .returned r ∧ w'.ownsRow 0 28 32 r (pathV ls i).length (hrow (pathV ls i)) ∧ (∀ q, r.ownBlock = some q → w.heap.size ≤ q) ∧ Pure w w' := by
  obtain ⟨i28, z28, HI28, hz28, hsz, hby, hzs⟩ := parts28
  have hi := HI28.out
  have hk1 : k < ls.length := by rw [hk]; exact belowV_lt h2
  have hk0 : 0 < k := by rw [hk]; exact belowV_pos _
  have hr1 : w.rangeAt b o (strs (ls.take k)) := strs_take hr k
  have hr2 : w.rangeAt b (o + k) (strs (ls.drop k)) := fun j v hj => by
    rw [Nat.add_assoc]
    refine hr _ v ?_
    rw [strs, List.map_drop, List.getElem?_drop] at hj
    exact hj
  have hpl := pathV_left (ls := ls) (i := i) h2
  have hpr := pathV_right (ls := ls) (i := i) h2
  rw [← hk] at hpl hpr
  have hrtL := fun (W : World) (hW : W.rangeAt b o (strs (ls.take k))) => Root_at k (ls.take k) (by rw [List.length_take]; omega) W b o c (by omega) (by omega) (fun x hx => hf x (List.mem_of_mem_take hx)) hW
  have hrtR := fun (W : World) (hW : W.rangeAt b (o + k) (strs (ls.drop k))) => Root_at (ls.length - k) (ls.drop k) (by rw [List.length_drop]) W b (o + k) (c - k) (by omega) (by omega) (fun x hx => hf x (List.mem_of_mem_drop hx)) hW
  have hlenL := (pathV_len k (ls.take k) i (by rw [List.length_take]; omega)).1
  have hlenR := (pathV_len (ls.length - k) (ls.drop k) (i - k) (by rw [List.length_drop])).1
  have hbel := fun W => Below_any W ls.length h2 (by omega)
  rw [← hk] at hbel
  obtain ⟨n, hnn⟩ : ∃ n, n = ls.length := ⟨_, rfl⟩
  rw [← hnn] at hk1 hn hc h2 i2 hrtR hlenR hbel ⊢
  have HI := Lib.hid (And.intro i1 i2); clear i1 i2
  have HRT := Lib.hid (And.intro hrtL hrtR); clear hrtL hrtR
  have HR := Lib.hid (And.intro hr1 hr2); clear hr1 hr2 hr
  have HBEL := Lib.hid hbel; clear hbel
  have q1 : (n == 1) = false := by simp; omega
  have q2 : ((n : Int) == 1) = false := by simp; omega
  have q5 : (0 : Int) ≤ k := by omega
  have q6 : (k : Int) ≤ n := by omega
  have q7 : (k : Int) ≤ c := by omega
  have q8 : ¬ c = k := by omega
  have q9 : ¬ c = 0 := by omega
  have HP := Lib.hid (And.intro hpl hpr); clear hpl hpr
  have HN := Lib.hid (And.intro hnn (And.intro hk1 hk0)); clear hnn hk
  by_cases hik : i < k
  · have q3 : (i : Int) < k := by omega
    have HPV := Lib.hid (HP.out.1 hik)
    clear hk1 hk0
    go_enter Try.func48, Try.ntmps48
    go_wp2_with fail
    refine (HBEL.out _).mono ?_
    rintro e w2 ⟨rfl, rfl⟩
    go_wp2_with fail
    refine wp_region_held_drew (S := fun _ => True) (by kernel_rfl) trivial (fun _ => ?_)
    have P4 := Lib.hid ((Turn.refl (fun _ => False) w2).drew)
    have HR4 := Lib.hid (show w2.drew.rangeAt b o (strs (ls.take k)) ∧ w2.drew.rangeAt b (o + k) (strs (ls.drop k)) from HR.out)
    generalize w2.drew = w4 at *
    refine wpAnyH_take (i := 0) (v := .slice (some ⟨b, o, none⟩) n c) rfl (by kernel_rfl) (by kernel_rfl) (by kernel_rfl) (fun _ _ _ h => h) (Or.inl ⟨by rfl, fun w hSw => by go_simp⟩) trivial ?_
    simp only [List.getElem_toArray, List.getElem_cons_zero, Act.put, List.setIfInBounds_toArray, List.set_cons_zero, List.set_cons_succ]
    refine wpAnyH_take (i := 1) (v := .int .i64 (k : Int)) rfl (by kernel_rfl) (by kernel_rfl) (by kernel_rfl) (fun _ _ _ h => h) (Or.inl ⟨by rfl, fun w hSw => by go_simp⟩) trivial ?_
    simp only [List.getElem_toArray, List.getElem_cons_succ, List.getElem_cons_zero, Act.put, List.setIfInBounds_toArray, List.set_cons_zero, List.set_cons_succ]
    refine wpAnyH_take (i := 2) (v := .slice (some ⟨b, o, none⟩) k c) rfl (by kernel_rfl) (by kernel_rfl) (by kernel_rfl) (fun _ _ _ h => h) (Or.inl ⟨by rfl, fun w hSw => by go_simp⟩) trivial ?_
    simp only [List.getElem_toArray, List.getElem_cons_succ, List.getElem_cons_zero, Act.put, List.setIfInBounds_toArray, List.set_cons_zero, List.set_cons_succ]
    refine wpAnyH_take (i := 3) (v := .int .i64 (i : Int)) rfl (by kernel_rfl) (by kernel_rfl) (by kernel_rfl) (fun _ _ _ h => h) (Or.inl ⟨by rfl, fun w hSw => by go_simp⟩) trivial ?_
    simp only [List.getElem_toArray, List.getElem_cons_succ, List.getElem_cons_zero, Act.put, List.setIfInBounds_toArray, List.set_cons_zero, List.set_cons_succ]
    refine wpAnyH_take (i := 5) (v := .slice (some ⟨b, o, none⟩) n c) rfl (by kernel_rfl) (by kernel_rfl) (by kernel_rfl) (fun _ _ _ h => h) (Or.inl ⟨by rfl, fun w hSw => by go_simp⟩) trivial ?_
    simp only [List.getElem_toArray, List.getElem_cons_succ, List.getElem_cons_zero, Act.put, List.setIfInBounds_toArray, List.set_cons_zero, List.set_cons_succ]
    refine wpAnyH_take (i := 6) (v := .int .i64 (k : Int)) rfl (by kernel_rfl) (by kernel_rfl) (by kernel_rfl) (fun _ _ _ h => h) (Or.inl ⟨by rfl, fun w hSw => by go_simp⟩) trivial ?_
    simp only [List.getElem_toArray, List.getElem_cons_succ, List.getElem_cons_zero, Act.put, List.setIfInBounds_toArray, List.set_cons_zero, List.set_cons_succ]
    refine wpAnyH_take (i := 7) (v := .slice (some ⟨b, o + k, none⟩) (n - k) (c - k)) rfl (by kernel_rfl) (by kernel_rfl) (by kernel_rfl) (fun _ _ _ h => h) (Or.inl ⟨by rfl, fun w hSw => by go_simp⟩) trivial ?_
    simp only [List.getElem_toArray, List.getElem_cons_succ, List.getElem_cons_zero, Act.put, List.setIfInBounds_toArray, List.set_cons_zero, List.set_cons_succ]
    refine wpAnyH_step (i := 4) (by kernel_rfl) rfl fun K hK => ?_
    go_simp
    refine (HI.out.1 _ HR4.out.1).mono ?_
    rintro e w5 ⟨r, rfl, hown, hlow, t5⟩
    obtain ⟨ra, rc, rfl, _⟩ := ownsRow_shape hown
    have HO := Lib.hid hown; have HLO := Lib.hid hlow; have P5 := Lib.hid (P4.out.pure t5)
    have HR5 := Lib.hid (And.intro (t5.range HR4.out.1 (fun e => e)) (t5.range HR4.out.2 (fun e => e)))
    refine hK.out _ _ trivial ?_
    clear hK K hown hlow
    try simp only [List.getElem_toArray, List.getElem_cons_succ, List.getElem_cons_zero, Act.put, List.setIfInBounds_toArray, List.set_cons_zero, List.set_cons_succ]
    refine wpAnyH_step (i := 8) (by kernel_rfl) rfl fun K hK => ?_
    go_simp
    refine (HRT.out.2 _ HR5.out.2).mono ?_
    rintro e w6 ⟨rfl, t6⟩
    have HO6 := Lib.hid (t6.own HO.out (fun _ _ e => e)); have P6 := Lib.hid (P5.out.pure t6)
    refine hK.out _ _ trivial ?_
    clear hK K HO P5 HR5
    try simp only [List.getElem_toArray, List.getElem_cons_succ, List.getElem_cons_zero, Act.put, List.setIfInBounds_toArray, List.set_cons_zero, List.set_cons_succ]
    refine wpAnyH_step (i := 9) (by kernel_rfl) rfl fun K hK => ?_
    refine step_buildHash rfl _ rfl (rootV (ls.drop k)) rfl (rootV_length _) ?_
    have t7 : Pure w6 (w6.alloc (.cells (u8s (rootV (ls.drop k))).toArray 28)) := (Turn.refl _ _).alloc _
    have HO7 := Lib.hid (t7.own HO6.out (fun _ _ e => e)); have P7 := Lib.hid (P6.out.pure t7)
    have HS7 : Hid (Src Try.prog 32 41 (.slice (some ⟨w6.heap.size, 0, none⟩) 1 1) 1 (u8s (rootV (ls.drop k))) (w6.alloc (.cells (u8s (rootV (ls.drop k))).toArray 28))) := Lib.hid (Src.ofSlice _ Try.underlying41 _ _ _ _ (by rw [u8s_length, rootV_length]) (World.news_of_block (heap_alloc_new w6 _)) (u8s_one _))
    refine hK.out _ _ trivial ?_
    clear hK K t7 HO6 P6
    generalize w6.alloc (.cells (u8s (rootV (ls.drop k))).toArray 28) = w7 at *
    generalize w6.heap.size = g7 at *
    try simp only [List.getElem_toArray, List.getElem_cons_succ, List.getElem_cons_zero, Act.put, List.setIfInBounds_toArray, List.set_cons_zero, List.set_cons_succ]
    refine wpAnyH_step (i := 10) (by kernel_rfl) rfl fun K hK => ?_
    refine step_append_turn rfl _ _ 41 41 28 rfl i28 z28 32 32 Try.underlying41 hi hz28 hsz hby hzs _ _ _ rfl HO7.out _ rfl 1 _ HS7.out (by omega) (by omega) ?_
    intro ao8 c8 w8 hown8 ht8 hb8
    have P8 := Lib.hid (P7.out.trans ht8 fun q hq e => by have := HLO.out q e; have := P4.out.size; omega : Pure w2 w8)
    have HB8 : Hid (∀ q, (Value.slice ao8 ((pathV (ls.take k) i).length + 1) c8).ownBlock = some q → w2.heap.size ≤ q) := Lib.hid fun q hq => by
      rcases hb8.out with e | e
      · rw [e] at hq; have := HLO.out q hq; have := P4.out.size; omega
      · rw [e] at hq; have e2 := Option.some.inj hq; have := P7.out.size; omega
    have hrow8 : hrow (pathV (ls.take k) i) ++ u8s (rootV (ls.drop k)) = hrow (pathV (ls.take k) i ++ [rootV (ls.drop k)]) := by rw [hrow_app]; simp [hrow]
    rw [hrow8] at hown8
    have HO8 := Lib.hid hown8
    refine hK.out _ _ trivial ?_
    clear hK K hown8 ht8 hb8 HS7 HO7 P7
    try simp only [List.getElem_toArray, List.getElem_cons_succ, List.getElem_cons_zero, Act.put, List.setIfInBounds_toArray, List.set_cons_zero, List.set_cons_succ]
    refine wpAnyH_take (i := 11) (v := .slice ao8 ((pathV (ls.take k) i).length + 1) c8) rfl (by kernel_rfl) (by kernel_rfl) (by kernel_rfl) (fun _ _ _ h => h) (Or.inl ⟨by rfl, fun w hSw => by go_simp⟩) trivial ?_
    simp only [List.getElem_toArray, List.getElem_cons_succ, List.getElem_cons_zero, Act.put, List.setIfInBounds_toArray, List.set_cons_zero, List.set_cons_succ]
    refine wpAnyH_done (by kernel_rfl) ?_ _
    go_wp2
    go_ret
    refine ⟨_, rfl, ?_, HB8.out, P8.out⟩
    rw [HPV.out, List.length_append]
    exact HO8.out
  · have q3 : ¬ ((i : Int) < k) := by omega
    obtain ⟨d, hd⟩ : ∃ d, d = i - k := ⟨_, rfl⟩
    have i3 : IntKind.i64.wrap ((i : Int) - k) = (d : Int) := by rw [IntWalk.i64_in _ (by omega)]; omega
    have HPV := Lib.hid (HP.out.2 hik)
    rw [← hd] at HPV HI hlenR
    have HD := Lib.hid hd
    clear hk1 hk0 hd
    go_enter Try.func48, Try.ntmps48
    go_wp2_with fail
    refine (HBEL.out _).mono ?_
    rintro e w2 ⟨rfl, rfl⟩
    go_wp2_with fail
    refine wp_region_held_drew (S := fun _ => True) (by kernel_rfl) trivial (fun _ => ?_)
    have P4 := Lib.hid ((Turn.refl (fun _ => False) w2).drew)
    have HR4 := Lib.hid (show w2.drew.rangeAt b o (strs (ls.take k)) ∧ w2.drew.rangeAt b (o + k) (strs (ls.drop k)) from HR.out)
    generalize w2.drew = w4 at *
    refine wpAnyH_take (i := 0) (v := .slice (some ⟨b, o, none⟩) n c) rfl (by kernel_rfl) (by kernel_rfl) (by kernel_rfl) (fun _ _ _ h => h) (Or.inl ⟨by rfl, fun w hSw => by go_simp⟩) trivial ?_
    simp only [List.getElem_toArray, List.getElem_cons_zero, Act.put, List.setIfInBounds_toArray, List.set_cons_zero, List.set_cons_succ]
    refine wpAnyH_take (i := 1) (v := .int .i64 (k : Int)) rfl (by kernel_rfl) (by kernel_rfl) (by kernel_rfl) (fun _ _ _ h => h) (Or.inl ⟨by rfl, fun w hSw => by go_simp⟩) trivial ?_
    simp only [List.getElem_toArray, List.getElem_cons_succ, List.getElem_cons_zero, Act.put, List.setIfInBounds_toArray, List.set_cons_zero, List.set_cons_succ]
    refine wpAnyH_take (i := 2) (v := .slice (some ⟨b, o + k, none⟩) (n - k) (c - k)) rfl (by kernel_rfl) (by kernel_rfl) (by kernel_rfl) (fun _ _ _ h => h) (Or.inl ⟨by rfl, fun w hSw => by go_simp⟩) trivial ?_
    simp only [List.getElem_toArray, List.getElem_cons_succ, List.getElem_cons_zero, Act.put, List.setIfInBounds_toArray, List.set_cons_zero, List.set_cons_succ]
    refine wpAnyH_take (i := 3) (v := .int .i64 (i : Int)) rfl (by kernel_rfl) (by kernel_rfl) (by kernel_rfl) (fun _ _ _ h => h) (Or.inl ⟨by rfl, fun w hSw => by go_simp⟩) trivial ?_
    simp only [List.getElem_toArray, List.getElem_cons_succ, List.getElem_cons_zero, Act.put, List.setIfInBounds_toArray, List.set_cons_zero, List.set_cons_succ]
    refine wpAnyH_take (i := 4) (v := .int .i64 (k : Int)) rfl (by kernel_rfl) (by kernel_rfl) (by kernel_rfl) (fun _ _ _ h => h) (Or.inl ⟨by rfl, fun w hSw => by go_simp⟩) trivial ?_
    simp only [List.getElem_toArray, List.getElem_cons_succ, List.getElem_cons_zero, Act.put, List.setIfInBounds_toArray, List.set_cons_zero, List.set_cons_succ]
    refine wpAnyH_take (i := 5) (v := .int .i64 (d : Int)) rfl (by kernel_rfl) (by kernel_rfl) (by kernel_rfl) (fun _ _ _ h => h) (Or.inl ⟨by rfl, fun w hSw => by go_simp⟩) trivial ?_
    simp only [List.getElem_toArray, List.getElem_cons_succ, List.getElem_cons_zero, Act.put, List.setIfInBounds_toArray, List.set_cons_zero, List.set_cons_succ]
    refine wpAnyH_take (i := 7) (v := .slice (some ⟨b, o, none⟩) n c) rfl (by kernel_rfl) (by kernel_rfl) (by kernel_rfl) (fun _ _ _ h => h) (Or.inl ⟨by rfl, fun w hSw => by go_simp⟩) trivial ?_
    simp only [List.getElem_toArray, List.getElem_cons_succ, List.getElem_cons_zero, Act.put, List.setIfInBounds_toArray, List.set_cons_zero, List.set_cons_succ]
    refine wpAnyH_take (i := 8) (v := .int .i64 (k : Int)) rfl (by kernel_rfl) (by kernel_rfl) (by kernel_rfl) (fun _ _ _ h => h) (Or.inl ⟨by rfl, fun w hSw => by go_simp⟩) trivial ?_
    simp only [List.getElem_toArray, List.getElem_cons_succ, List.getElem_cons_zero, Act.put, List.setIfInBounds_toArray, List.set_cons_zero, List.set_cons_succ]
    refine wpAnyH_take (i := 9) (v := .slice (some ⟨b, o, none⟩) k c) rfl (by kernel_rfl) (by kernel_rfl) (by kernel_rfl) (fun _ _ _ h => h) (Or.inl ⟨by rfl, fun w hSw => by go_simp⟩) trivial ?_
    simp only [List.getElem_toArray, List.getElem_cons_succ, List.getElem_cons_zero, Act.put, List.setIfInBounds_toArray, List.set_cons_zero, List.set_cons_succ]
    refine wpAnyH_step (i := 6) (by kernel_rfl) rfl fun K hK => ?_
    go_simp
    refine (HI.out.2 _ HR4.out.2).mono ?_
    rintro e w5 ⟨r, rfl, hown, hlow, t5⟩
    obtain ⟨ra, rc, rfl, _⟩ := ownsRow_shape hown
    have HO := Lib.hid hown; have HLO := Lib.hid hlow; have P5 := Lib.hid (P4.out.pure t5)
    have HR5 := Lib.hid (And.intro (t5.range HR4.out.1 (fun e => e)) (t5.range HR4.out.2 (fun e => e)))
    refine hK.out _ _ trivial ?_
    clear hK K hown hlow
    try simp only [List.getElem_toArray, List.getElem_cons_succ, List.getElem_cons_zero, Act.put, List.setIfInBounds_toArray, List.set_cons_zero, List.set_cons_succ]
    refine wpAnyH_step (i := 10) (by kernel_rfl) rfl fun K hK => ?_
    go_simp
    refine (HRT.out.1 _ HR5.out.1).mono ?_
    rintro e w6 ⟨rfl, t6⟩
    have HO6 := Lib.hid (t6.own HO.out (fun _ _ e => e)); have P6 := Lib.hid (P5.out.pure t6)
    refine hK.out _ _ trivial ?_
    clear hK K HO P5 HR5
    try simp only [List.getElem_toArray, List.getElem_cons_succ, List.getElem_cons_zero, Act.put, List.setIfInBounds_toArray, List.set_cons_zero, List.set_cons_succ]
    refine wpAnyH_step (i := 11) (by kernel_rfl) rfl fun K hK => ?_
    refine step_buildHash rfl _ rfl (rootV (ls.take k)) rfl (rootV_length _) ?_
    have t7 : Pure w6 (w6.alloc (.cells (u8s (rootV (ls.take k))).toArray 28)) := (Turn.refl _ _).alloc _
    have HO7 := Lib.hid (t7.own HO6.out (fun _ _ e => e)); have P7 := Lib.hid (P6.out.pure t7)
    have HS7 : Hid (Src Try.prog 32 41 (.slice (some ⟨w6.heap.size, 0, none⟩) 1 1) 1 (u8s (rootV (ls.take k))) (w6.alloc (.cells (u8s (rootV (ls.take k))).toArray 28))) := Lib.hid (Src.ofSlice _ Try.underlying41 _ _ _ _ (by rw [u8s_length, rootV_length]) (World.news_of_block (heap_alloc_new w6 _)) (u8s_one _))
    refine hK.out _ _ trivial ?_
    clear hK K t7 HO6 P6
    generalize w6.alloc (.cells (u8s (rootV (ls.take k))).toArray 28) = w7 at *
    generalize w6.heap.size = g7 at *
    try simp only [List.getElem_toArray, List.getElem_cons_succ, List.getElem_cons_zero, Act.put, List.setIfInBounds_toArray, List.set_cons_zero, List.set_cons_succ]
    refine wpAnyH_step (i := 12) (by kernel_rfl) rfl fun K hK => ?_
    refine step_append_turn rfl _ _ 41 41 28 rfl i28 z28 32 32 Try.underlying41 hi hz28 hsz hby hzs _ _ _ rfl HO7.out _ rfl 1 _ HS7.out (by omega) (by omega) ?_
    intro ao8 c8 w8 hown8 ht8 hb8
    have P8 := Lib.hid (P7.out.trans ht8 fun q hq e => by have := HLO.out q e; have := P4.out.size; omega : Pure w2 w8)
    have HB8 : Hid (∀ q, (Value.slice ao8 ((pathV (ls.drop k) d).length + 1) c8).ownBlock = some q → w2.heap.size ≤ q) := Lib.hid fun q hq => by
      rcases hb8.out with e | e
      · rw [e] at hq; have := HLO.out q hq; have := P4.out.size; omega
      · rw [e] at hq; have e2 := Option.some.inj hq; have := P7.out.size; omega
    have hrow8 : hrow (pathV (ls.drop k) d) ++ u8s (rootV (ls.take k)) = hrow (pathV (ls.drop k) d ++ [rootV (ls.take k)]) := by rw [hrow_app]; simp [hrow]
    rw [hrow8] at hown8
    have HO8 := Lib.hid hown8
    refine hK.out _ _ trivial ?_
    clear hK K hown8 ht8 hb8 HS7 HO7 P7
    try simp only [List.getElem_toArray, List.getElem_cons_succ, List.getElem_cons_zero, Act.put, List.setIfInBounds_toArray, List.set_cons_zero, List.set_cons_succ]
    refine wpAnyH_take (i := 13) (v := .slice ao8 ((pathV (ls.drop k) d).length + 1) c8) rfl (by kernel_rfl) (by kernel_rfl) (by kernel_rfl) (fun _ _ _ h => h) (Or.inl ⟨by rfl, fun w hSw => by go_simp⟩) trivial ?_
    simp only [List.getElem_toArray, List.getElem_cons_succ, List.getElem_cons_zero, Act.put, List.setIfInBounds_toArray, List.set_cons_zero, List.set_cons_succ]
    refine wpAnyH_done (by kernel_rfl) ?_ _
    go_wp2
    go_ret
    refine ⟨_, rfl, ?_, HB8.out, P8.out⟩
    rw [HPV.out, List.length_append]
    exact HO8.out

/-- The nodes beside a leaf's way, of leaves that lie in a row. -/
theorem path_at : ∀ (m : Nat) (ls : List (List UInt8)), ls.length = m → 1 ≤ m → ∀ (w : World) (b o c i : Nat), m ≤ c → m ≤ 4000000000000 → i ≤ 4000000000000 → Fits ls → w.rangeAt b o (strs ls) →
    Calls Try.prog 48 #[.slice (some ⟨b, o, none⟩) m c, .int .i64 (i : Int)] w fun e w' => ∃ r, e = .returned r ∧ w'.ownsRow 0 28 32 r (pathV ls i).length (hrow (pathV ls i)) ∧ (∀ q, r.ownBlock = some q → w.heap.size ≤ q) ∧ Pure w w' := by
  intro m
  induction m using Nat.strongRecOn with
  | _ m ih =>
    intro ls hm h1 w b o c i hc hn hi hf hr
    subst hm
    by_cases h2 : 2 ≤ ls.length
    · have hk1 := belowV_lt h2
      have hk0 := belowV_pos ls.length
      refine path_more w ls b o c i (belowV ls.length) h2 hc hn hi rfl hf hr (fun W hW => ?_) (fun W hW => ?_)
      · exact ih (belowV ls.length) hk1 (ls.take (belowV ls.length)) (by simp; omega) hk0 W b o c i (by omega) (by omega) hi (fun l hl => hf l (List.mem_of_mem_take hl)) hW
      · exact ih (ls.length - belowV ls.length) (by omega) (ls.drop (belowV ls.length)) (by simp) (by omega) W b (o + belowV ls.length) (c - belowV ls.length) (i - belowV ls.length) (by omega) (by omega) (by omega) (fun l hl => hf l (List.mem_of_mem_drop hl)) hW
    · have h11 : ls.length = 1 := by omega
      rw [h11]
      refine (path_one w _ c i).mono ?_
      rintro e w' ⟨rfl, rfl⟩
      rw [pathV_one ls i h2]
      exact ⟨_, rfl, World.ownsRow_nil _ _ _ _, fun q hq => by simp [Value.ownBlock] at hq, Turn.refl _ _⟩

set_option maxHeartbeats 400000 in
theorem rpath_one (w : World) (ao : Option Addr) (c : Nat) (i : Nat) : Calls Try.prog 49 #[.int .i64 (i : Int), .slice ao 1 c] w fun e w' => e = .returned (.slice none 0 0) ∧ w' = w := by
  go_enter Try.func49, Try.ntmps49
  go_wp2
  go_ret
  exact ⟨rfl, rfl⟩

set_option maxRecDepth 100000 in
set_option maxHeartbeats 1000000 in
theorem rpath_more (w : World) (ls : List (List UInt8)) (b o c i k : Nat) (h2 : 2 ≤ ls.length) (hc : ls.length ≤ c) (hn : ls.length ≤ 4000000000000) (hi0 : i ≤ 4000000000000) (hk : k = belowV ls.length) (hf : Fits ls) (hr : w.rangeAt b o (strs ls))
    (i1 : ∀ W : World, W.rangeAt b o (strs (ls.take k)) → Calls Try.prog 49 #[.int .i64 (i : Int), .slice (some ⟨b, o, none⟩) k c] W fun e w' => ∃ r, e = .returned r ∧ w'.ownsRow 0 28 32 r (pathV (ls.take k) i).length (hrow (pathV (ls.take k) i)) ∧ (∀ q, r.ownBlock = some q → W.heap.size ≤ q) ∧ Pure W w')
    (i2 : ∀ W : World, W.rangeAt b (o + k) (strs (ls.drop k)) → Calls Try.prog 49 #[.int .i64 ((i - k : Nat) : Int), .slice (some ⟨b, o + k, none⟩) (ls.length - k) (c - k)] W fun e w' => ∃ r, e = .returned r ∧ w'.ownsRow 0 28 32 r (pathV (ls.drop k) (i - k)).length (hrow (pathV (ls.drop k) (i - k))) ∧ (∀ q, r.ownBlock = some q → W.heap.size ≤ q) ∧ Pure W w') :
    Calls Try.prog 49 #[.int .i64 (i : Int), .slice (some ⟨b, o, none⟩) ls.length c] w fun e w' => ∃ r, e = .returned r ∧ w'.ownsRow 0 28 32 r (pathV ls i).length (hrow (pathV ls i)) ∧ (∀ q, r.ownBlock = some q → w.heap.size ≤ q) ∧ Pure w w' := by
  obtain ⟨i28, z28, HI28, hz28, hsz, hby, hzs⟩ := parts28
  have hi := HI28.out
  have hk1 : k < ls.length := by rw [hk]; exact belowV_lt h2
  have hk0 : 0 < k := by rw [hk]; exact belowV_pos _
  have hr1 : w.rangeAt b o (strs (ls.take k)) := strs_take hr k
  have hr2 : w.rangeAt b (o + k) (strs (ls.drop k)) := fun j v hj => by
    rw [Nat.add_assoc]
    refine hr _ v ?_
    rw [strs, List.map_drop, List.getElem?_drop] at hj
    exact hj
  have hpl := pathV_left (ls := ls) (i := i) h2
  have hpr := pathV_right (ls := ls) (i := i) h2
  rw [← hk] at hpl hpr
  have hrtL := fun (W : World) (hW : W.rangeAt b o (strs (ls.take k))) => RRoot_at k (ls.take k) (by rw [List.length_take]; omega) W b o c (by omega) (by omega) (fun x hx => hf x (List.mem_of_mem_take hx)) hW
  have hrtR := fun (W : World) (hW : W.rangeAt b (o + k) (strs (ls.drop k))) => RRoot_at (ls.length - k) (ls.drop k) (by rw [List.length_drop]) W b (o + k) (c - k) (by omega) (by omega) (fun x hx => hf x (List.mem_of_mem_drop hx)) hW
  have hlenL := (pathV_len k (ls.take k) i (by rw [List.length_take]; omega)).1
  have hlenR := (pathV_len (ls.length - k) (ls.drop k) (i - k) (by rw [List.length_drop])).1
  have hbel := fun W => cut_any W ls.length h2 (by omega)
  rw [← hk] at hbel
  obtain ⟨n, hnn⟩ : ∃ n, n = ls.length := ⟨_, rfl⟩
  rw [← hnn] at hk1 hn hc h2 i2 hrtR hlenR hbel ⊢
  have HI := Lib.hid (And.intro i1 i2); clear i1 i2
  have HRT := Lib.hid (And.intro hrtL hrtR); clear hrtL hrtR
  have HR := Lib.hid (And.intro hr1 hr2); clear hr1 hr2 hr
  have HBEL := Lib.hid hbel; clear hbel
  have q1 : (n == 1) = false := by simp; omega
  have q2 : ((n : Int) == 1) = false := by simp; omega
  have q5 : (0 : Int) ≤ k := by omega
  have q6 : (k : Int) ≤ n := by omega
  have q7 : (k : Int) ≤ c := by omega
  have q8 : ¬ c = k := by omega
  have q9 : ¬ c = 0 := by omega
  have HP := Lib.hid (And.intro hpl hpr); clear hpl hpr
  have HN := Lib.hid (And.intro hnn (And.intro hk1 hk0)); clear hnn hk
  by_cases hik : i < k
  · have q3 : (i : Int) < k := by omega
    have HPV := Lib.hid (HP.out.1 hik)
    clear hk1 hk0
    go_enter Try.func49, Try.ntmps49
    go_wp2_with fail
    refine (HBEL.out _).mono ?_
    rintro e w2 ⟨rfl, rfl⟩
    go_wp2_with fail
    refine wp_region_held_drew (S := fun _ => True) (by kernel_rfl) trivial (fun _ => ?_)
    have P4 := Lib.hid ((Turn.refl (fun _ => False) w2).drew)
    have HR4 := Lib.hid (show w2.drew.rangeAt b o (strs (ls.take k)) ∧ w2.drew.rangeAt b (o + k) (strs (ls.drop k)) from HR.out)
    generalize w2.drew = w4 at *
    refine wpAnyH_take (i := 0) (v := .int .i64 (i : Int)) rfl (by kernel_rfl) (by kernel_rfl) (by kernel_rfl) (fun _ _ _ h => h) (Or.inl ⟨by rfl, fun w hSw => by go_simp⟩) trivial ?_
    simp only [List.getElem_toArray, List.getElem_cons_zero, Act.put, List.setIfInBounds_toArray, List.set_cons_zero, List.set_cons_succ]
    refine wpAnyH_take (i := 1) (v := .slice (some ⟨b, o, none⟩) n c) rfl (by kernel_rfl) (by kernel_rfl) (by kernel_rfl) (fun _ _ _ h => h) (Or.inl ⟨by rfl, fun w hSw => by go_simp⟩) trivial ?_
    simp only [List.getElem_toArray, List.getElem_cons_succ, List.getElem_cons_zero, Act.put, List.setIfInBounds_toArray, List.set_cons_zero, List.set_cons_succ]
    refine wpAnyH_take (i := 2) (v := .int .i64 (k : Int)) rfl (by kernel_rfl) (by kernel_rfl) (by kernel_rfl) (fun _ _ _ h => h) (Or.inl ⟨by rfl, fun w hSw => by go_simp⟩) trivial ?_
    simp only [List.getElem_toArray, List.getElem_cons_succ, List.getElem_cons_zero, Act.put, List.setIfInBounds_toArray, List.set_cons_zero, List.set_cons_succ]
    refine wpAnyH_take (i := 3) (v := .slice (some ⟨b, o, none⟩) k c) rfl (by kernel_rfl) (by kernel_rfl) (by kernel_rfl) (fun _ _ _ h => h) (Or.inl ⟨by rfl, fun w hSw => by go_simp⟩) trivial ?_
    simp only [List.getElem_toArray, List.getElem_cons_succ, List.getElem_cons_zero, Act.put, List.setIfInBounds_toArray, List.set_cons_zero, List.set_cons_succ]
    refine wpAnyH_take (i := 5) (v := .slice (some ⟨b, o, none⟩) n c) rfl (by kernel_rfl) (by kernel_rfl) (by kernel_rfl) (fun _ _ _ h => h) (Or.inl ⟨by rfl, fun w hSw => by go_simp⟩) trivial ?_
    simp only [List.getElem_toArray, List.getElem_cons_succ, List.getElem_cons_zero, Act.put, List.setIfInBounds_toArray, List.set_cons_zero, List.set_cons_succ]
    refine wpAnyH_take (i := 6) (v := .int .i64 (k : Int)) rfl (by kernel_rfl) (by kernel_rfl) (by kernel_rfl) (fun _ _ _ h => h) (Or.inl ⟨by rfl, fun w hSw => by go_simp⟩) trivial ?_
    simp only [List.getElem_toArray, List.getElem_cons_succ, List.getElem_cons_zero, Act.put, List.setIfInBounds_toArray, List.set_cons_zero, List.set_cons_succ]
    refine wpAnyH_take (i := 7) (v := .slice (some ⟨b, o + k, none⟩) (n - k) (c - k)) rfl (by kernel_rfl) (by kernel_rfl) (by kernel_rfl) (fun _ _ _ h => h) (Or.inl ⟨by rfl, fun w hSw => by go_simp⟩) trivial ?_
    simp only [List.getElem_toArray, List.getElem_cons_succ, List.getElem_cons_zero, Act.put, List.setIfInBounds_toArray, List.set_cons_zero, List.set_cons_succ]
    refine wpAnyH_step (i := 4) (by kernel_rfl) rfl fun K hK => ?_
    go_simp
    refine (HI.out.1 _ HR4.out.1).mono ?_
    rintro e w5 ⟨r, rfl, hown, hlow, t5⟩
    obtain ⟨ra, rc, rfl, _⟩ := ownsRow_shape hown
    have HO := Lib.hid hown; have HLO := Lib.hid hlow; have P5 := Lib.hid (P4.out.pure t5)
    have HR5 := Lib.hid (And.intro (t5.range HR4.out.1 (fun e => e)) (t5.range HR4.out.2 (fun e => e)))
    refine hK.out _ _ trivial ?_
    clear hK K hown hlow
    try simp only [List.getElem_toArray, List.getElem_cons_succ, List.getElem_cons_zero, Act.put, List.setIfInBounds_toArray, List.set_cons_zero, List.set_cons_succ]
    refine wpAnyH_step (i := 8) (by kernel_rfl) rfl fun K hK => ?_
    go_simp
    refine (HRT.out.2 _ HR5.out.2).mono ?_
    rintro e w6 ⟨rfl, t6⟩
    have HO6 := Lib.hid (t6.own HO.out (fun _ _ e => e)); have P6 := Lib.hid (P5.out.pure t6)
    refine hK.out _ _ trivial ?_
    clear hK K HO P5 HR5
    try simp only [List.getElem_toArray, List.getElem_cons_succ, List.getElem_cons_zero, Act.put, List.setIfInBounds_toArray, List.set_cons_zero, List.set_cons_succ]
    refine wpAnyH_step (i := 9) (by kernel_rfl) rfl fun K hK => ?_
    refine step_buildHash rfl _ rfl (rootV (ls.drop k)) rfl (rootV_length _) ?_
    have t7 : Pure w6 (w6.alloc (.cells (u8s (rootV (ls.drop k))).toArray 28)) := (Turn.refl _ _).alloc _
    have HO7 := Lib.hid (t7.own HO6.out (fun _ _ e => e)); have P7 := Lib.hid (P6.out.pure t7)
    have HS7 : Hid (Src Try.prog 32 41 (.slice (some ⟨w6.heap.size, 0, none⟩) 1 1) 1 (u8s (rootV (ls.drop k))) (w6.alloc (.cells (u8s (rootV (ls.drop k))).toArray 28))) := Lib.hid (Src.ofSlice _ Try.underlying41 _ _ _ _ (by rw [u8s_length, rootV_length]) (World.news_of_block (heap_alloc_new w6 _)) (u8s_one _))
    refine hK.out _ _ trivial ?_
    clear hK K t7 HO6 P6
    generalize w6.alloc (.cells (u8s (rootV (ls.drop k))).toArray 28) = w7 at *
    generalize w6.heap.size = g7 at *
    try simp only [List.getElem_toArray, List.getElem_cons_succ, List.getElem_cons_zero, Act.put, List.setIfInBounds_toArray, List.set_cons_zero, List.set_cons_succ]
    refine wpAnyH_step (i := 10) (by kernel_rfl) rfl fun K hK => ?_
    refine step_append_turn rfl _ _ 41 41 28 rfl i28 z28 32 32 Try.underlying41 hi hz28 hsz hby hzs _ _ _ rfl HO7.out _ rfl 1 _ HS7.out (by omega) (by omega) ?_
    intro ao8 c8 w8 hown8 ht8 hb8
    have P8 := Lib.hid (P7.out.trans ht8 fun q hq e => by have := HLO.out q e; have := P4.out.size; omega : Pure w2 w8)
    have HB8 : Hid (∀ q, (Value.slice ao8 ((pathV (ls.take k) i).length + 1) c8).ownBlock = some q → w2.heap.size ≤ q) := Lib.hid fun q hq => by
      rcases hb8.out with e | e
      · rw [e] at hq; have := HLO.out q hq; have := P4.out.size; omega
      · rw [e] at hq; have e2 := Option.some.inj hq; have := P7.out.size; omega
    have hrow8 : hrow (pathV (ls.take k) i) ++ u8s (rootV (ls.drop k)) = hrow (pathV (ls.take k) i ++ [rootV (ls.drop k)]) := by rw [hrow_app]; simp [hrow]
    rw [hrow8] at hown8
    have HO8 := Lib.hid hown8
    refine hK.out _ _ trivial ?_
    clear hK K hown8 ht8 hb8 HS7 HO7 P7
    try simp only [List.getElem_toArray, List.getElem_cons_succ, List.getElem_cons_zero, Act.put, List.setIfInBounds_toArray, List.set_cons_zero, List.set_cons_succ]
    refine wpAnyH_take (i := 11) (v := .slice ao8 ((pathV (ls.take k) i).length + 1) c8) rfl (by kernel_rfl) (by kernel_rfl) (by kernel_rfl) (fun _ _ _ h => h) (Or.inl ⟨by rfl, fun w hSw => by go_simp⟩) trivial ?_
    simp only [List.getElem_toArray, List.getElem_cons_succ, List.getElem_cons_zero, Act.put, List.setIfInBounds_toArray, List.set_cons_zero, List.set_cons_succ]
    refine wpAnyH_done (by kernel_rfl) ?_ _
    go_wp2
    go_ret
    refine ⟨_, rfl, ?_, HB8.out, P8.out⟩
    rw [HPV.out, List.length_append]
    exact HO8.out
  · have q3 : ¬ ((i : Int) < k) := by omega
    obtain ⟨d, hd⟩ : ∃ d, d = i - k := ⟨_, rfl⟩
    have i3 : IntKind.i64.wrap ((i : Int) - k) = (d : Int) := by rw [IntWalk.i64_in _ (by omega)]; omega
    have HPV := Lib.hid (HP.out.2 hik)
    rw [← hd] at HPV HI hlenR
    have HD := Lib.hid hd
    clear hk1 hk0 hd
    go_enter Try.func49, Try.ntmps49
    go_wp2_with fail
    refine (HBEL.out _).mono ?_
    rintro e w2 ⟨rfl, rfl⟩
    go_wp2_with fail
    refine wp_region_held_drew (S := fun _ => True) (by kernel_rfl) trivial (fun _ => ?_)
    have P4 := Lib.hid ((Turn.refl (fun _ => False) w2).drew)
    have HR4 := Lib.hid (show w2.drew.rangeAt b o (strs (ls.take k)) ∧ w2.drew.rangeAt b (o + k) (strs (ls.drop k)) from HR.out)
    generalize w2.drew = w4 at *
    refine wpAnyH_take (i := 0) (v := .int .i64 (i : Int)) rfl (by kernel_rfl) (by kernel_rfl) (by kernel_rfl) (fun _ _ _ h => h) (Or.inl ⟨by rfl, fun w hSw => by go_simp⟩) trivial ?_
    simp only [List.getElem_toArray, List.getElem_cons_zero, Act.put, List.setIfInBounds_toArray, List.set_cons_zero, List.set_cons_succ]
    refine wpAnyH_take (i := 1) (v := .int .i64 (k : Int)) rfl (by kernel_rfl) (by kernel_rfl) (by kernel_rfl) (fun _ _ _ h => h) (Or.inl ⟨by rfl, fun w hSw => by go_simp⟩) trivial ?_
    simp only [List.getElem_toArray, List.getElem_cons_succ, List.getElem_cons_zero, Act.put, List.setIfInBounds_toArray, List.set_cons_zero, List.set_cons_succ]
    refine wpAnyH_take (i := 2) (v := .int .i64 (d : Int)) rfl (by kernel_rfl) (by kernel_rfl) (by kernel_rfl) (fun _ _ _ h => h) (Or.inl ⟨by rfl, fun w hSw => by go_simp⟩) trivial ?_
    simp only [List.getElem_toArray, List.getElem_cons_succ, List.getElem_cons_zero, Act.put, List.setIfInBounds_toArray, List.set_cons_zero, List.set_cons_succ]
    refine wpAnyH_take (i := 3) (v := .slice (some ⟨b, o, none⟩) n c) rfl (by kernel_rfl) (by kernel_rfl) (by kernel_rfl) (fun _ _ _ h => h) (Or.inl ⟨by rfl, fun w hSw => by go_simp⟩) trivial ?_
    simp only [List.getElem_toArray, List.getElem_cons_succ, List.getElem_cons_zero, Act.put, List.setIfInBounds_toArray, List.set_cons_zero, List.set_cons_succ]
    refine wpAnyH_take (i := 4) (v := .int .i64 (k : Int)) rfl (by kernel_rfl) (by kernel_rfl) (by kernel_rfl) (fun _ _ _ h => h) (Or.inl ⟨by rfl, fun w hSw => by go_simp⟩) trivial ?_
    simp only [List.getElem_toArray, List.getElem_cons_succ, List.getElem_cons_zero, Act.put, List.setIfInBounds_toArray, List.set_cons_zero, List.set_cons_succ]
    refine wpAnyH_take (i := 5) (v := .slice (some ⟨b, o + k, none⟩) (n - k) (c - k)) rfl (by kernel_rfl) (by kernel_rfl) (by kernel_rfl) (fun _ _ _ h => h) (Or.inl ⟨by rfl, fun w hSw => by go_simp⟩) trivial ?_
    simp only [List.getElem_toArray, List.getElem_cons_succ, List.getElem_cons_zero, Act.put, List.setIfInBounds_toArray, List.set_cons_zero, List.set_cons_succ]
    refine wpAnyH_take (i := 7) (v := .slice (some ⟨b, o, none⟩) n c) rfl (by kernel_rfl) (by kernel_rfl) (by kernel_rfl) (fun _ _ _ h => h) (Or.inl ⟨by rfl, fun w hSw => by go_simp⟩) trivial ?_
    simp only [List.getElem_toArray, List.getElem_cons_succ, List.getElem_cons_zero, Act.put, List.setIfInBounds_toArray, List.set_cons_zero, List.set_cons_succ]
    refine wpAnyH_take (i := 8) (v := .int .i64 (k : Int)) rfl (by kernel_rfl) (by kernel_rfl) (by kernel_rfl) (fun _ _ _ h => h) (Or.inl ⟨by rfl, fun w hSw => by go_simp⟩) trivial ?_
    simp only [List.getElem_toArray, List.getElem_cons_succ, List.getElem_cons_zero, Act.put, List.setIfInBounds_toArray, List.set_cons_zero, List.set_cons_succ]
    refine wpAnyH_take (i := 9) (v := .slice (some ⟨b, o, none⟩) k c) rfl (by kernel_rfl) (by kernel_rfl) (by kernel_rfl) (fun _ _ _ h => h) (Or.inl ⟨by rfl, fun w hSw => by go_simp⟩) trivial ?_
    simp only [List.getElem_toArray, List.getElem_cons_succ, List.getElem_cons_zero, Act.put, List.setIfInBounds_toArray, List.set_cons_zero, List.set_cons_succ]
    refine wpAnyH_step (i := 6) (by kernel_rfl) rfl fun K hK => ?_
    go_simp
    refine (HI.out.2 _ HR4.out.2).mono ?_
    rintro e w5 ⟨r, rfl, hown, hlow, t5⟩
    obtain ⟨ra, rc, rfl, _⟩ := ownsRow_shape hown
    have HO := Lib.hid hown; have HLO := Lib.hid hlow; have P5 := Lib.hid (P4.out.pure t5)
    have HR5 := Lib.hid (And.intro (t5.range HR4.out.1 (fun e => e)) (t5.range HR4.out.2 (fun e => e)))
    refine hK.out _ _ trivial ?_
    clear hK K hown hlow
    try simp only [List.getElem_toArray, List.getElem_cons_succ, List.getElem_cons_zero, Act.put, List.setIfInBounds_toArray, List.set_cons_zero, List.set_cons_succ]
    refine wpAnyH_step (i := 10) (by kernel_rfl) rfl fun K hK => ?_
    go_simp
    refine (HRT.out.1 _ HR5.out.1).mono ?_
    rintro e w6 ⟨rfl, t6⟩
    have HO6 := Lib.hid (t6.own HO.out (fun _ _ e => e)); have P6 := Lib.hid (P5.out.pure t6)
    refine hK.out _ _ trivial ?_
    clear hK K HO P5 HR5
    try simp only [List.getElem_toArray, List.getElem_cons_succ, List.getElem_cons_zero, Act.put, List.setIfInBounds_toArray, List.set_cons_zero, List.set_cons_succ]
    refine wpAnyH_step (i := 11) (by kernel_rfl) rfl fun K hK => ?_
    refine step_buildHash rfl _ rfl (rootV (ls.take k)) rfl (rootV_length _) ?_
    have t7 : Pure w6 (w6.alloc (.cells (u8s (rootV (ls.take k))).toArray 28)) := (Turn.refl _ _).alloc _
    have HO7 := Lib.hid (t7.own HO6.out (fun _ _ e => e)); have P7 := Lib.hid (P6.out.pure t7)
    have HS7 : Hid (Src Try.prog 32 41 (.slice (some ⟨w6.heap.size, 0, none⟩) 1 1) 1 (u8s (rootV (ls.take k))) (w6.alloc (.cells (u8s (rootV (ls.take k))).toArray 28))) := Lib.hid (Src.ofSlice _ Try.underlying41 _ _ _ _ (by rw [u8s_length, rootV_length]) (World.news_of_block (heap_alloc_new w6 _)) (u8s_one _))
    refine hK.out _ _ trivial ?_
    clear hK K t7 HO6 P6
    generalize w6.alloc (.cells (u8s (rootV (ls.take k))).toArray 28) = w7 at *
    generalize w6.heap.size = g7 at *
    try simp only [List.getElem_toArray, List.getElem_cons_succ, List.getElem_cons_zero, Act.put, List.setIfInBounds_toArray, List.set_cons_zero, List.set_cons_succ]
    refine wpAnyH_step (i := 12) (by kernel_rfl) rfl fun K hK => ?_
    refine step_append_turn rfl _ _ 41 41 28 rfl i28 z28 32 32 Try.underlying41 hi hz28 hsz hby hzs _ _ _ rfl HO7.out _ rfl 1 _ HS7.out (by omega) (by omega) ?_
    intro ao8 c8 w8 hown8 ht8 hb8
    have P8 := Lib.hid (P7.out.trans ht8 fun q hq e => by have := HLO.out q e; have := P4.out.size; omega : Pure w2 w8)
    have HB8 : Hid (∀ q, (Value.slice ao8 ((pathV (ls.drop k) d).length + 1) c8).ownBlock = some q → w2.heap.size ≤ q) := Lib.hid fun q hq => by
      rcases hb8.out with e | e
      · rw [e] at hq; have := HLO.out q hq; have := P4.out.size; omega
      · rw [e] at hq; have e2 := Option.some.inj hq; have := P7.out.size; omega
    have hrow8 : hrow (pathV (ls.drop k) d) ++ u8s (rootV (ls.take k)) = hrow (pathV (ls.drop k) d ++ [rootV (ls.take k)]) := by rw [hrow_app]; simp [hrow]
    rw [hrow8] at hown8
    have HO8 := Lib.hid hown8
    refine hK.out _ _ trivial ?_
    clear hK K hown8 ht8 hb8 HS7 HO7 P7
    try simp only [List.getElem_toArray, List.getElem_cons_succ, List.getElem_cons_zero, Act.put, List.setIfInBounds_toArray, List.set_cons_zero, List.set_cons_succ]
    refine wpAnyH_take (i := 13) (v := .slice ao8 ((pathV (ls.drop k) d).length + 1) c8) rfl (by kernel_rfl) (by kernel_rfl) (by kernel_rfl) (fun _ _ _ h => h) (Or.inl ⟨by rfl, fun w hSw => by go_simp⟩) trivial ?_
    simp only [List.getElem_toArray, List.getElem_cons_succ, List.getElem_cons_zero, Act.put, List.setIfInBounds_toArray, List.set_cons_zero, List.set_cons_succ]
    refine wpAnyH_done (by kernel_rfl) ?_ _
    go_wp2
    go_ret
    refine ⟨_, rfl, ?_, HB8.out, P8.out⟩
    rw [HPV.out, List.length_append]
    exact HO8.out

/-- The nodes beside a leaf's way, of leaves that lie in a row. -/
theorem rpath_at : ∀ (m : Nat) (ls : List (List UInt8)), ls.length = m → 1 ≤ m → ∀ (w : World) (b o c i : Nat), m ≤ c → m ≤ 4000000000000 → i ≤ 4000000000000 → Fits ls → w.rangeAt b o (strs ls) →
    Calls Try.prog 49 #[.int .i64 (i : Int), .slice (some ⟨b, o, none⟩) m c] w fun e w' => ∃ r, e = .returned r ∧ w'.ownsRow 0 28 32 r (pathV ls i).length (hrow (pathV ls i)) ∧ (∀ q, r.ownBlock = some q → w.heap.size ≤ q) ∧ Pure w w' := by
  intro m
  induction m using Nat.strongRecOn with
  | _ m ih =>
    intro ls hm h1 w b o c i hc hn hi hf hr
    subst hm
    by_cases h2 : 2 ≤ ls.length
    · have hk1 := belowV_lt h2
      have hk0 := belowV_pos ls.length
      refine rpath_more w ls b o c i (belowV ls.length) h2 hc hn hi rfl hf hr (fun W hW => ?_) (fun W hW => ?_)
      · exact ih (belowV ls.length) hk1 (ls.take (belowV ls.length)) (by simp; omega) hk0 W b o c i (by omega) (by omega) hi (fun l hl => hf l (List.mem_of_mem_take hl)) hW
      · exact ih (ls.length - belowV ls.length) (by omega) (ls.drop (belowV ls.length)) (by simp) (by omega) W b (o + belowV ls.length) (c - belowV ls.length) (i - belowV ls.length) (by omega) (by omega) (by omega) (fun l hl => hf l (List.mem_of_mem_drop hl)) hW
    · have h11 : ls.length = 1 := by omega
      rw [h11]
      refine (rpath_one w _ c i).mono ?_
      rintro e w' ⟨rfl, rfl⟩
      rw [pathV_one ls i h2]
      exact ⟨_, rfl, World.ownsRow_nil _ _ _ _, fun q hq => by simp [Value.ownBlock] at hq, Turn.refl _ _⟩
end Go.Proofs.Ytjbigghjbcjelaa
