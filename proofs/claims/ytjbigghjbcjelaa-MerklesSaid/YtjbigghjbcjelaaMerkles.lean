/- The law Merkles: any leaves: each root; they stay. -/
import Derived.Test.YtjbigghjbcjelaaLend
namespace Go.Proofs.Ytjbigghjbcjelaa
open Go.RowKit

set_option maxRecDepth 100000 in
set_option maxHeartbeats 4000000 in
theorem Merkles_true (w : World) (v : Value) (l : List (List UInt8)) (h : Texts w v l) (hf : Fits l) (hl : l.length ≤ 8796093021952) :
    Calls Try.prog 3 #[v] w fun e w' => e = .returned (.bool true) ∧ Pure w w' := by
  have hh := h
  obtain ⟨ao, c, rfl, hlc, ha⟩ := h
  have HA := Lib.hid ha; clear ha
  obtain ⟨n, hn⟩ : ∃ n, n = l.length := ⟨_, rfl⟩
  rw [← hn] at hlc hl hh ⊢
  have HH := Lib.hid hh; clear hh
  have HN := Lib.hid hn; clear hn
  go_enter Try.func3, Try.ntmps3
  go_wp2_with fail
  refine (LendTexts_any _ _ l HH.out (by rw [← HN.out]; exact hl)).mono ?_
  rintro e w1 ⟨x, rfl, hlt, t1⟩
  have P1 := Lib.hid t1
  have HLT := Lib.hid hlt
  have HLL := Lib.hid (HH.out.pure t1)
  obtain ⟨bx, cx, rfl, _, _⟩ := hlt
  rw [← HN.out] at HLT ⊢
  clear t1
  go_wp2_with fail
  refine (TNew_any _).mono ?_
  rintro e w2 ⟨ga, rfl, hta, hga, t2⟩
  have lga : w.heap.size ≤ ga := by have := P1.out.size; omega
  have lga1 : w1.heap.size ≤ ga := hga
  have HTa := Lib.hid hta
  have PP := Lib.hid (P1.out.pure t2)
  have PQ := Lib.hid t2
  clear hta t2 P1 hga HLL
  go_wp2
  go_loopw [2, 5] (fun _ i wr => ∃ (k : Nat) (va : Value), k ≤ n ∧ k ≤ 60 ∧ i = .int .i64 (k : Int) ∧ Hid (TreeAt wr ga va (rowsOf (l.take k)) (l.take k).length) ∧ Hid (Pure w wr) ∧ Hid (Pure w1 wr)) (fun _ i _ => n - (intOf i).toNat)
  case atStart => exact ⟨0, .slice none 0 0, by omega, by omega, rfl, Lib.hid (by rw [List.take_zero]; exact HTa.out), PP, PQ⟩
  case round =>
    clear HTa PP PQ
    obtain ⟨k, va, hkn, hk60, rfl, HTa, PP, PQ⟩ := hrel
    by_cases hgo : k < n ∧ k < 60
    · obtain ⟨h1, h2⟩ := hgo
      have q1 : (k : Int) < n := by omega
      have q2 : (k : Int) < 60 := by omega
      have q3 : decide ((k : Int) < n) = true := decide_eq_true q1
      have q4 : decide ((k : Int) < 60) = true := decide_eq_true q2
      have q3n : decide (k < n) = true := decide_eq_true h1
      have q4n : decide (k < 60) = true := decide_eq_true h2
      have q0 : (0 : Int) ≤ k := by omega
      have q5 : (k : Int) ≤ c := by omega
      have qc : ¬ c = 0 := by omega
      have hkl : k < l.length := by have := HN.out; omega
      obtain ⟨x, hx⟩ : ∃ x, x = l[k] := ⟨_, rfl⟩
      have hxl : x.length ≤ 140737488351232 := by rw [hx]; exact hf _ (List.getElem_mem hkl)
      obtain ⟨b, o, rfl, hr⟩ := HA.out (fun e => by rw [e] at hkl; simp at hkl)
      have hcell : w.cell? ⟨b, o + k, none⟩ = some (.string (bstr x)) := hr k _ (by rw [hx]; simp [strs, hkl])
      have htk : l.take (k + 1) = l.take k ++ [x] := by rw [List.take_succ_eq_append_getElem hkl, hx]
      have hlk : (l.take k).length = k := by rw [List.length_take]; omega
      have htx : Texts w (.slice (some ⟨b, o, none⟩) k c) (l.take k) := ⟨_, c, by rw [hlk], by omega, fun _ => ⟨b, o, rfl, strs_take hr k⟩⟩
      have hfA : Fits (l.take k) := fun y hy => hf y (List.mem_of_mem_take hy)
      have HX := Lib.hid (And.intro htk hlk)
      have HTX := Lib.hid (htx.pure PP.out)
      have HCE := Lib.hid hcell
      have hW : (rootV (l.take k)).length = 32 := rootV_length _
      have nW : ∀ V : World, (binOp .neq 28 (hv (rootV (l.take k))) (hv (rootV (l.take k)))).run Try.prog V = .ok (.bool false) V := fun V => by rw [neq28 V hW hW, beq_self_eq_true]; rfl
      have kk : ((k : Int) != (k : Int)) = false := by simp
      clear hx hr htx htk hkl hcell
      go_wp2_with fail
      refine wp_region_held_drew (S := fun _ => True) (by kernel_rfl) trivial (fun _ => ?_)
      have HTa := Lib.hid (HTa.out.turn ((Turn.refl (fun _ => False) wr).drew) (fun e => e) (fun _ _ e => e))
      have HTX := Lib.hid (HTX.out.pure ((Turn.refl (fun _ => False) wr).drew))
      have PP := Lib.hid PP.out.drew
      have PQ := Lib.hid PQ.out.drew
      generalize wr.drew = wr at *
      refine wpAnyH_take (i := 0) (v := .pointer (some ⟨ga, 0, none⟩)) rfl (by kernel_rfl) (by kernel_rfl) (by kernel_rfl) (fun _ _ _ h => h) (Or.inl ⟨by rfl, fun w hSw => by go_simp⟩) trivial ?_
      simp only [List.getElem_toArray, List.getElem_cons_zero, Act.put, List.setIfInBounds_toArray, List.set_cons_zero, List.set_cons_succ]
      refine wpAnyH_take (i := 2) (v := .int .i64 (k : Int)) rfl (by kernel_rfl) (by kernel_rfl) (by kernel_rfl) (fun _ _ _ h => h) (Or.inl ⟨by rfl, fun w hSw => by go_simp⟩) trivial ?_
      simp only [List.getElem_toArray, List.getElem_cons_succ, List.getElem_cons_zero, Act.put, List.setIfInBounds_toArray, List.set_cons_zero, List.set_cons_succ]
      refine wpAnyH_step (i := 1) (by kernel_rfl) rfl fun K hK => ?_
      go_simp
      refine (TSize_any _ ga _ _ _ HTa.out).mono ?_
      rintro e wn ⟨rfl, rfl⟩
      refine hK.out _ _ trivial ?_
      clear hK K
      try simp only [List.getElem_toArray, List.getElem_cons_succ, List.getElem_cons_zero, Act.put, List.setIfInBounds_toArray, List.set_cons_zero, List.set_cons_succ]
      refine wpAnyH_take (i := 3) (v := .bool false) rfl (by kernel_rfl) (by kernel_rfl) (by kernel_rfl) (fun _ _ _ h => h) (Or.inl ⟨by rfl, fun w hSw => by go_simp⟩) trivial ?_
      simp only [List.getElem_toArray, List.getElem_cons_succ, List.getElem_cons_zero, Act.put, List.setIfInBounds_toArray, List.set_cons_zero, List.set_cons_succ]
      refine wpAnyH_take (i := 4) (v := .bool false) rfl (by kernel_rfl) (by kernel_rfl) (by kernel_rfl) (fun _ _ _ h => h) (Or.inl ⟨by rfl, fun w hSw => by go_simp⟩) trivial ?_
      simp only [List.getElem_toArray, List.getElem_cons_succ, List.getElem_cons_zero, Act.put, List.setIfInBounds_toArray, List.set_cons_zero, List.set_cons_succ]
      refine wpAnyH_take (i := 5) (v := .pointer (some ⟨ga, 0, none⟩)) rfl (by kernel_rfl) (by kernel_rfl) (by kernel_rfl) (fun _ _ _ h => h) (Or.inl ⟨by rfl, fun w hSw => by go_simp⟩) trivial ?_
      simp only [List.getElem_toArray, List.getElem_cons_succ, List.getElem_cons_zero, Act.put, List.setIfInBounds_toArray, List.set_cons_zero, List.set_cons_succ]
      refine wpAnyH_take (i := 7) (v := .slice (some ⟨b, o, none⟩) n c) rfl (by kernel_rfl) (by kernel_rfl) (by kernel_rfl) (fun _ _ _ h => h) (Or.inl ⟨by rfl, fun w hSw => by go_simp⟩) trivial ?_
      simp only [List.getElem_toArray, List.getElem_cons_succ, List.getElem_cons_zero, Act.put, List.setIfInBounds_toArray, List.set_cons_zero, List.set_cons_succ]
      refine wpAnyH_take (i := 8) (v := .int .i64 (k : Int)) rfl (by kernel_rfl) (by kernel_rfl) (by kernel_rfl) (fun _ _ _ h => h) (Or.inl ⟨by rfl, fun w hSw => by go_simp⟩) trivial ?_
      simp only [List.getElem_toArray, List.getElem_cons_succ, List.getElem_cons_zero, Act.put, List.setIfInBounds_toArray, List.set_cons_zero, List.set_cons_succ]
      refine wpAnyH_take (i := 9) (v := .slice (some ⟨b, o, none⟩) k c) rfl (by kernel_rfl) (by kernel_rfl) (by kernel_rfl) (fun _ _ _ h => h) (Or.inl ⟨by rfl, fun w hSw => by go_simp⟩) trivial ?_
      simp only [List.getElem_toArray, List.getElem_cons_succ, List.getElem_cons_zero, Act.put, List.setIfInBounds_toArray, List.set_cons_zero, List.set_cons_succ]
      refine wpAnyH_step (i := 6) (by kernel_rfl) rfl fun K hK => ?_
      go_simp
      refine (TRoot_of _ ga _ _ _ HTa.out).mono ?_
      rintro e wn ⟨rfl, tn⟩
      have HTa := Lib.hid (HTa.out.turn tn (fun e => e) (fun _ _ e => e)); have PP := Lib.hid (PP.out.pure tn); have PQ := Lib.hid (PQ.out.pure tn); have HTX := Lib.hid (HTX.out.pure tn)
      clear tn
      refine hK.out _ _ trivial ?_
      clear hK K
      try simp only [List.getElem_toArray, List.getElem_cons_succ, List.getElem_cons_zero, Act.put, List.setIfInBounds_toArray, List.set_cons_zero, List.set_cons_succ]
      refine wpAnyH_step (i := 10) (by kernel_rfl) rfl fun K hK => ?_
      go_simp
      refine (RRoot_texts _ _ _ HTX.out hfA (by have := HX.out; omega)).mono ?_
      rintro e wn ⟨rfl, tn⟩
      have HTa := Lib.hid (HTa.out.turn tn (fun e => e) (fun _ _ e => e)); have PP := Lib.hid (PP.out.pure tn); have PQ := Lib.hid (PQ.out.pure tn); have HTX := Lib.hid (HTX.out.pure tn)
      clear tn
      refine hK.out _ _ trivial ?_
      clear hK K
      try simp only [List.getElem_toArray, List.getElem_cons_succ, List.getElem_cons_zero, Act.put, List.setIfInBounds_toArray, List.set_cons_zero, List.set_cons_succ]
      refine wpAnyH_take (i := 11) (v := .bool false) rfl (by kernel_rfl) (by kernel_rfl) (by kernel_rfl) (fun _ _ _ h => h) (Or.inl ⟨by rfl, fun w hSw => by go_simp⟩) trivial ?_
      simp only [List.getElem_toArray, List.getElem_cons_succ, List.getElem_cons_zero, Act.put, List.setIfInBounds_toArray, List.set_cons_zero, List.set_cons_succ]
      refine wpAnyH_take (i := 12) (v := .bool false) rfl (by kernel_rfl) (by kernel_rfl) (by kernel_rfl) (fun _ _ _ h => h) (Or.inl ⟨by rfl, fun w hSw => by go_simp⟩) trivial ?_
      simp only [List.getElem_toArray, List.getElem_cons_succ, List.getElem_cons_zero, Act.put, List.setIfInBounds_toArray, List.set_cons_zero, List.set_cons_succ]
      refine wpAnyH_done (by kernel_rfl) ?_ _
      have hcell := PP.out.cell HCE.out (fun e => e)
      go_wp2_with fail
      refine (TAppend_of _ ga va (l.take k) x HTa.out hxl (by omega)).mono ?_
      rintro e w4 ⟨rfl, va', ta', na', t4⟩
      rw [← HX.out.1] at ta'
      have HTa4 := Lib.hid ta'
      have P4 := Lib.hid (PP.out.trans t4 fun i hi e => by omega : Pure w w4)
      have Q4 := Lib.hid (PQ.out.trans t4 fun i hi e => by omega : Pure w1 w4)
      clear ta' na' t4 HTa PP PQ hcell HTX
      go_wp2
      exact ⟨⟨k + 1, va', by omega, by omega, by go_num, HTa4, P4, Q4⟩, by simp [intOf]; omega⟩
    · have HLT := Lib.hid (HLT.out.pure PQ.out)
      have HLL := Lib.hid (HH.out.pure PP.out)
      clear PQ
      by_cases hk1 : k < n
      · have q1 : (k : Int) < n := by omega
        have q2 : ¬ ((k : Int) < 60) := by omega
        have q3 : decide ((k : Int) < n) = true := decide_eq_true q1
        have q4 : decide ((k : Int) < 60) = false := decide_eq_false q2
        have q3n : decide (k < n) = true := decide_eq_true hk1
        have q4n : decide (k < 60) = false := decide_eq_false (by omega)
        clear hgo
        have hRl : (rootV l).length = 32 := rootV_length _
        have sR := fun V => same28 V hRl
        by_cases hn0 : n = 0
        · exact absurd hk1 (by omega)
        · have hne : l ≠ [] := fun e => hn0 (by have := HN.out; rw [e] at this; simpa using this)
          obtain ⟨b, o, rfl, hr⟩ := HA.out hne
          obtain ⟨x0, hx0e⟩ : ∃ x0, x0 = l[0]'(List.length_pos_iff.2 hne) := ⟨_, rfl⟩
          have hx0 : x0.length ≤ 140737488351232 := by rw [hx0e]; exact hf _ (List.getElem_mem _)
          have hc0 : w.cell? ⟨b, o + 0, none⟩ = some (.string (bstr x0)) := hr 0 _ (by rw [hx0e]; simp [strs, List.length_pos_iff.2 hne])
          rw [Nat.add_zero] at hc0
          have HC0 := Lib.hid (show wr.cell? ⟨b, o, none⟩ = some (.string (bstr x0)) from PP.out.cell hc0 (fun e => e))
          clear hc0 hr hx0e
          have n0 : ((n : Int) == 0) = false := by simp; omega
          have n0n : (n == 0) = false := by simp; omega
          have np : (0 : Int) < n := by omega
          have hLl : (leafV x0).length = 32 := leafV_length _
          have sL := fun V => same28 V hLl
          go_wp2_with fail
          refine wp_region_held_drew (S := fun w' => w'.cell? ⟨b, o, none⟩ = some (.string (bstr x0))) (by kernel_rfl) (show wr.drew.cell? ⟨b, o, none⟩ = some (.string (bstr x0)) from HC0.out) (fun hHeld => ?_)
          have HS := Lib.hid hHeld
          clear hHeld HC0
          have PP := Lib.hid PP.out.drew
          have HLT := Lib.hid (HLT.out.pure ((Turn.refl (fun _ => False) wr).drew))
          have HLL := Lib.hid (HLL.out.pure ((Turn.refl (fun _ => False) wr).drew))
          clear HTa
          generalize wr.drew = wr at *
          refine wpAnyH_take (i := 0) (v := .slice (some ⟨bx, 0, none⟩) n cx) rfl (by kernel_rfl) (by kernel_rfl) (by kernel_rfl) (fun _ _ _ h => h) (Or.inl ⟨by rfl, fun w hSw => by go_simp⟩) HS.out ?_
          simp only [List.getElem_toArray, List.getElem_cons_zero, Act.put, List.setIfInBounds_toArray, List.set_cons_zero, List.set_cons_succ]
          refine wpAnyH_take (i := 2) (v := .slice (some ⟨b, o, none⟩) n c) rfl (by kernel_rfl) (by kernel_rfl) (by kernel_rfl) (fun _ _ _ h => h) (Or.inl ⟨by rfl, fun w hSw => by go_simp⟩) HS.out ?_
          simp only [List.getElem_toArray, List.getElem_cons_succ, List.getElem_cons_zero, Act.put, List.setIfInBounds_toArray, List.set_cons_zero, List.set_cons_succ]
          refine wpAnyH_step (i := 1) (by kernel_rfl) rfl fun K hK => ?_
          go_simp
          refine (Root_texts _ _ l HLT.out.texts hf (by have := HN.out; omega)).mono ?_
          rintro e wn ⟨rfl, tn⟩
          have PP := Lib.hid (PP.out.pure tn); have HLT := Lib.hid (HLT.out.pure tn); have HLL := Lib.hid (HLL.out.pure tn); have HS := Lib.hid (tn.cell HS.out (fun e => e))
          clear tn
          refine hK.out _ _ HS.out ?_
          clear hK K
          try simp only [List.getElem_toArray, List.getElem_cons_succ, List.getElem_cons_zero, Act.put, List.setIfInBounds_toArray, List.set_cons_zero, List.set_cons_succ]
          refine wpAnyH_step (i := 3) (by kernel_rfl) rfl fun K hK => ?_
          go_simp
          refine (RRoot_texts _ _ l HLL.out hf (by have := HN.out; omega)).mono ?_
          rintro e wn ⟨rfl, tn⟩
          have PP := Lib.hid (PP.out.pure tn); have HLT := Lib.hid (HLT.out.pure tn); have HLL := Lib.hid (HLL.out.pure tn); have HS := Lib.hid (tn.cell HS.out (fun e => e))
          clear tn
          refine hK.out _ _ HS.out ?_
          clear hK K
          try simp only [List.getElem_toArray, List.getElem_cons_succ, List.getElem_cons_zero, Act.put, List.setIfInBounds_toArray, List.set_cons_zero, List.set_cons_succ]
          refine wpAnyH_take (i := 4) (v := .bool true) rfl (by kernel_rfl) (by kernel_rfl) (by kernel_rfl) (fun _ _ _ h => h) (Or.inl ⟨by rfl, fun w hSw => by go_simp⟩) HS.out ?_
          simp only [List.getElem_toArray, List.getElem_cons_succ, List.getElem_cons_zero, Act.put, List.setIfInBounds_toArray, List.set_cons_zero, List.set_cons_succ]
          refine wpAnyH_take (i := 5) (v := .bool true) rfl (by kernel_rfl) (by kernel_rfl) (by kernel_rfl) (fun _ _ _ h => h) (Or.inl ⟨by rfl, fun w hSw => by go_simp⟩) HS.out ?_
          simp only [List.getElem_toArray, List.getElem_cons_succ, List.getElem_cons_zero, Act.put, List.setIfInBounds_toArray, List.set_cons_zero, List.set_cons_succ]
          refine wpAnyH_take (i := 6) (v := .slice (some ⟨b, o, none⟩) n c) rfl (by kernel_rfl) (by kernel_rfl) (by kernel_rfl) (fun _ _ _ h => h) (Or.inl ⟨by rfl, fun w hSw => by go_simp⟩) HS.out ?_
          simp only [List.getElem_toArray, List.getElem_cons_succ, List.getElem_cons_zero, Act.put, List.setIfInBounds_toArray, List.set_cons_zero, List.set_cons_succ]
          refine wpAnyH_take (i := 7) (v := .int .i64 (n : Int)) rfl (by kernel_rfl) (by kernel_rfl) (by kernel_rfl) (fun _ _ _ h => h) (Or.inl ⟨by rfl, fun w hSw => by go_simp⟩) HS.out ?_
          simp only [List.getElem_toArray, List.getElem_cons_succ, List.getElem_cons_zero, Act.put, List.setIfInBounds_toArray, List.set_cons_zero, List.set_cons_succ]
          refine wpAnyH_take (i := 8) (v := .bool false) rfl (by kernel_rfl) (by kernel_rfl) (by kernel_rfl) (fun _ _ _ h => h) (Or.inl ⟨by rfl, fun w hSw => by go_simp⟩) HS.out ?_
          simp only [List.getElem_toArray, List.getElem_cons_succ, List.getElem_cons_zero, Act.put, List.setIfInBounds_toArray, List.set_cons_zero, List.set_cons_succ]
          refine wpAnyH_take (i := 9) (v := .bool false) rfl (by kernel_rfl) (by kernel_rfl) (by kernel_rfl) (fun _ _ _ h => h) (Or.inl ⟨by rfl, fun w hSw => by go_simp⟩) HS.out ?_
          simp only [List.getElem_toArray, List.getElem_cons_succ, List.getElem_cons_zero, Act.put, List.setIfInBounds_toArray, List.set_cons_zero, List.set_cons_succ]
          refine wpAnyH_take (i := 10) (v := .slice (some ⟨b, o, none⟩) n c) rfl (by kernel_rfl) (by kernel_rfl) (by kernel_rfl) (fun _ _ _ h => h) (Or.inl ⟨by rfl, fun w hSw => by go_simp⟩) HS.out ?_
          simp only [List.getElem_toArray, List.getElem_cons_succ, List.getElem_cons_zero, Act.put, List.setIfInBounds_toArray, List.set_cons_zero, List.set_cons_succ]
          refine wpAnyH_take (i := 11) (v := .pointer (some ⟨b, o, none⟩)) rfl (by kernel_rfl) (by kernel_rfl) (by kernel_rfl) (fun _ _ _ h => h) (Or.inl ⟨by rfl, fun w hSw => by go_simp⟩) HS.out ?_
          simp only [List.getElem_toArray, List.getElem_cons_succ, List.getElem_cons_zero, Act.put, List.setIfInBounds_toArray, List.set_cons_zero, List.set_cons_succ]
          refine wpAnyH_take (i := 12) (v := .string (bstr x0)) rfl (by kernel_rfl) (by kernel_rfl) (by kernel_rfl) (fun _ _ _ h => h) (Or.inl ⟨by rfl, fun w hSw => by go_simp⟩) HS.out ?_
          simp only [List.getElem_toArray, List.getElem_cons_succ, List.getElem_cons_zero, Act.put, List.setIfInBounds_toArray, List.set_cons_zero, List.set_cons_succ]
          refine wpAnyH_take (i := 14) (v := .slice (some ⟨b, o, none⟩) n c) rfl (by kernel_rfl) (by kernel_rfl) (by kernel_rfl) (fun _ _ _ h => h) (Or.inl ⟨by rfl, fun w hSw => by go_simp⟩) HS.out ?_
          simp only [List.getElem_toArray, List.getElem_cons_succ, List.getElem_cons_zero, Act.put, List.setIfInBounds_toArray, List.set_cons_zero, List.set_cons_succ]
          refine wpAnyH_take (i := 15) (v := .pointer (some ⟨b, o, none⟩)) rfl (by kernel_rfl) (by kernel_rfl) (by kernel_rfl) (fun _ _ _ h => h) (Or.inl ⟨by rfl, fun w hSw => by go_simp⟩) HS.out ?_
          simp only [List.getElem_toArray, List.getElem_cons_succ, List.getElem_cons_zero, Act.put, List.setIfInBounds_toArray, List.set_cons_zero, List.set_cons_succ]
          refine wpAnyH_take (i := 16) (v := .string (bstr x0)) rfl (by kernel_rfl) (by kernel_rfl) (by kernel_rfl) (fun _ _ _ h => h) (Or.inl ⟨by rfl, fun w hSw => by go_simp⟩) HS.out ?_
          simp only [List.getElem_toArray, List.getElem_cons_succ, List.getElem_cons_zero, Act.put, List.setIfInBounds_toArray, List.set_cons_zero, List.set_cons_succ]
          refine wpAnyH_step (i := 13) (by kernel_rfl) rfl fun K hK => ?_
          go_simp
          refine (Leaf_any _ x0 hx0).mono ?_
          rintro e wn ⟨rfl, tn⟩
          have PP := Lib.hid (PP.out.pure tn); have HLT := Lib.hid (HLT.out.pure tn); have HLL := Lib.hid (HLL.out.pure tn); have HS := Lib.hid (tn.cell HS.out (fun e => e))
          clear tn
          refine hK.out _ _ HS.out ?_
          clear hK K
          try simp only [List.getElem_toArray, List.getElem_cons_succ, List.getElem_cons_zero, Act.put, List.setIfInBounds_toArray, List.set_cons_zero, List.set_cons_succ]
          refine wpAnyH_step (i := 17) (by kernel_rfl) rfl fun K hK => ?_
          go_simp
          refine (RLeaf_any _ x0 hx0).mono ?_
          rintro e wn ⟨rfl, tn⟩
          have PP := Lib.hid (PP.out.pure tn); have HLT := Lib.hid (HLT.out.pure tn); have HLL := Lib.hid (HLL.out.pure tn); have HS := Lib.hid (tn.cell HS.out (fun e => e))
          clear tn
          refine hK.out _ _ HS.out ?_
          clear hK K
          try simp only [List.getElem_toArray, List.getElem_cons_succ, List.getElem_cons_zero, Act.put, List.setIfInBounds_toArray, List.set_cons_zero, List.set_cons_succ]
          refine wpAnyH_take (i := 18) (v := .bool true) rfl (by kernel_rfl) (by kernel_rfl) (by kernel_rfl) (fun _ _ _ h => h) (Or.inl ⟨by rfl, fun w hSw => by go_simp⟩) HS.out ?_
          simp only [List.getElem_toArray, List.getElem_cons_succ, List.getElem_cons_zero, Act.put, List.setIfInBounds_toArray, List.set_cons_zero, List.set_cons_succ]
          refine wpAnyH_take (i := 19) (v := .bool true) rfl (by kernel_rfl) (by kernel_rfl) (by kernel_rfl) (fun _ _ _ h => h) (Or.inl ⟨by rfl, fun w hSw => by go_simp⟩) HS.out ?_
          simp only [List.getElem_toArray, List.getElem_cons_succ, List.getElem_cons_zero, Act.put, List.setIfInBounds_toArray, List.set_cons_zero, List.set_cons_succ]
          refine wpAnyH_take (i := 20) (v := .bool true) rfl (by kernel_rfl) (by kernel_rfl) (by kernel_rfl) (fun _ _ _ h => h) (Or.inl ⟨by rfl, fun w hSw => by go_simp⟩) HS.out ?_
          simp only [List.getElem_toArray, List.getElem_cons_succ, List.getElem_cons_zero, Act.put, List.setIfInBounds_toArray, List.set_cons_zero, List.set_cons_succ]
          refine wpAnyH_take (i := 21) (v := .bool true) rfl (by kernel_rfl) (by kernel_rfl) (by kernel_rfl) (fun _ _ _ h => h) (Or.inl ⟨by rfl, fun w hSw => by go_simp⟩) HS.out ?_
          simp only [List.getElem_toArray, List.getElem_cons_succ, List.getElem_cons_zero, Act.put, List.setIfInBounds_toArray, List.set_cons_zero, List.set_cons_succ]
          refine wpAnyH_take (i := 22) (v := .slice (some ⟨bx, 0, none⟩) n cx) rfl (by kernel_rfl) (by kernel_rfl) (by kernel_rfl) (fun _ _ _ h => h) (Or.inl ⟨by rfl, fun w hSw => by go_simp⟩) HS.out ?_
          simp only [List.getElem_toArray, List.getElem_cons_succ, List.getElem_cons_zero, Act.put, List.setIfInBounds_toArray, List.set_cons_zero, List.set_cons_succ]
          refine wpAnyH_take (i := 23) (v := .slice (some ⟨b, o, none⟩) n c) rfl (by kernel_rfl) (by kernel_rfl) (by kernel_rfl) (fun _ _ _ h => h) (Or.inl ⟨by rfl, fun w hSw => by go_simp⟩) HS.out ?_
          simp only [List.getElem_toArray, List.getElem_cons_succ, List.getElem_cons_zero, Act.put, List.setIfInBounds_toArray, List.set_cons_zero, List.set_cons_succ]
          refine wpAnyH_step (i := 24) (by kernel_rfl) rfl fun K hK => ?_
          go_simp
          refine (KeptTexts_any _ _ _ l HLT.out HLL.out (by have := HN.out; omega)).mono ?_
          rintro e wn ⟨rfl, tn⟩
          have PP := Lib.hid (PP.out.pure tn); have HLT := Lib.hid (HLT.out.pure tn); have HLL := Lib.hid (HLL.out.pure tn); have HS := Lib.hid (tn.cell HS.out (fun e => e))
          clear tn
          refine hK.out _ _ HS.out ?_
          clear hK K
          try simp only [List.getElem_toArray, List.getElem_cons_succ, List.getElem_cons_zero, Act.put, List.setIfInBounds_toArray, List.set_cons_zero, List.set_cons_succ]
          refine wpAnyH_take (i := 25) (v := .bool true) rfl (by kernel_rfl) (by kernel_rfl) (by kernel_rfl) (fun _ _ _ h => h) (Or.inl ⟨by rfl, fun w hSw => by go_simp⟩) HS.out ?_
          simp only [List.getElem_toArray, List.getElem_cons_succ, List.getElem_cons_zero, Act.put, List.setIfInBounds_toArray, List.set_cons_zero, List.set_cons_succ]
          refine wpAnyH_take (i := 26) (v := .bool true) rfl (by kernel_rfl) (by kernel_rfl) (by kernel_rfl) (fun _ _ _ h => h) (Or.inl ⟨by rfl, fun w hSw => by go_simp⟩) HS.out ?_
          simp only [List.getElem_toArray, List.getElem_cons_succ, List.getElem_cons_zero, Act.put, List.setIfInBounds_toArray, List.set_cons_zero, List.set_cons_succ]
          refine wpAnyH_step (i := 27) (by kernel_rfl) rfl fun K hK => ?_
          go_simp
          refine (awake9 _).mono ?_
          rintro e wn ⟨rfl, tn⟩
          have PP := Lib.hid (PP.out.pure tn); have HLT := Lib.hid (HLT.out.pure tn); have HLL := Lib.hid (HLL.out.pure tn); have HS := Lib.hid (tn.cell HS.out (fun e => e))
          clear tn
          refine hK.out _ _ HS.out ?_
          clear hK K
          try simp only [List.getElem_toArray, List.getElem_cons_succ, List.getElem_cons_zero, Act.put, List.setIfInBounds_toArray, List.set_cons_zero, List.set_cons_succ]
          refine wpAnyH_take (i := 28) (v := .bool true) rfl (by kernel_rfl) (by kernel_rfl) (by kernel_rfl) (fun _ _ _ h => h) (Or.inl ⟨by rfl, fun w hSw => by go_simp⟩) HS.out ?_
          simp only [List.getElem_toArray, List.getElem_cons_succ, List.getElem_cons_zero, Act.put, List.setIfInBounds_toArray, List.set_cons_zero, List.set_cons_succ]
          refine wpAnyH_take (i := 29) (v := .bool true) rfl (by kernel_rfl) (by kernel_rfl) (by kernel_rfl) (fun _ _ _ h => h) (Or.inl ⟨by rfl, fun w hSw => by go_simp⟩) HS.out ?_
          simp only [List.getElem_toArray, List.getElem_cons_succ, List.getElem_cons_zero, Act.put, List.setIfInBounds_toArray, List.set_cons_zero, List.set_cons_succ]
          refine wpAnyH_done (by kernel_rfl) ?_ _
          go_wp2
          go_ret
          exact ⟨rfl, PP.out⟩
      · have q1 : ¬ ((k : Int) < n) := by omega
        have q3 : decide ((k : Int) < n) = false := decide_eq_false q1
        have q3n : decide (k < n) = false := decide_eq_false hk1
        clear hgo
        have hRl : (rootV l).length = 32 := rootV_length _
        have sR := fun V => same28 V hRl
        by_cases hn0 : n = 0
        · subst hn0
          go_wp2_with fail
          refine wp_region_held_drew (S := fun _ => True) (by kernel_rfl) trivial (fun _ => ?_)
          have PP := Lib.hid PP.out.drew
          have HLT := Lib.hid (HLT.out.pure ((Turn.refl (fun _ => False) wr).drew))
          have HLL := Lib.hid (HLL.out.pure ((Turn.refl (fun _ => False) wr).drew))
          clear HTa
          generalize wr.drew = wr at *
          refine wpAnyH_take (i := 0) (v := .slice (some ⟨bx, 0, none⟩) 0 cx) rfl (by kernel_rfl) (by kernel_rfl) (by kernel_rfl) (fun _ _ _ h => h) (Or.inl ⟨by rfl, fun w hSw => by go_simp⟩) trivial ?_
          simp only [List.getElem_toArray, List.getElem_cons_zero, Act.put, List.setIfInBounds_toArray, List.set_cons_zero, List.set_cons_succ]
          refine wpAnyH_take (i := 2) (v := .slice ao 0 c) rfl (by kernel_rfl) (by kernel_rfl) (by kernel_rfl) (fun _ _ _ h => h) (Or.inl ⟨by rfl, fun w hSw => by go_simp⟩) trivial ?_
          simp only [List.getElem_toArray, List.getElem_cons_succ, List.getElem_cons_zero, Act.put, List.setIfInBounds_toArray, List.set_cons_zero, List.set_cons_succ]
          refine wpAnyH_step (i := 1) (by kernel_rfl) rfl fun K hK => ?_
          go_simp
          refine (Root_texts _ _ l HLT.out.texts hf (by have := HN.out; omega)).mono ?_
          rintro e wn ⟨rfl, tn⟩
          have PP := Lib.hid (PP.out.pure tn); have HLT := Lib.hid (HLT.out.pure tn); have HLL := Lib.hid (HLL.out.pure tn)
          clear tn
          refine hK.out _ _ trivial ?_
          clear hK K
          try simp only [List.getElem_toArray, List.getElem_cons_succ, List.getElem_cons_zero, Act.put, List.setIfInBounds_toArray, List.set_cons_zero, List.set_cons_succ]
          refine wpAnyH_step (i := 3) (by kernel_rfl) rfl fun K hK => ?_
          go_simp
          refine (RRoot_texts _ _ l HLL.out hf (by have := HN.out; omega)).mono ?_
          rintro e wn ⟨rfl, tn⟩
          have PP := Lib.hid (PP.out.pure tn); have HLT := Lib.hid (HLT.out.pure tn); have HLL := Lib.hid (HLL.out.pure tn)
          clear tn
          refine hK.out _ _ trivial ?_
          clear hK K
          try simp only [List.getElem_toArray, List.getElem_cons_succ, List.getElem_cons_zero, Act.put, List.setIfInBounds_toArray, List.set_cons_zero, List.set_cons_succ]
          refine wpAnyH_take (i := 4) (v := .bool true) rfl (by kernel_rfl) (by kernel_rfl) (by kernel_rfl) (fun _ _ _ h => h) (Or.inl ⟨by rfl, fun w hSw => by go_simp⟩) trivial ?_
          simp only [List.getElem_toArray, List.getElem_cons_succ, List.getElem_cons_zero, Act.put, List.setIfInBounds_toArray, List.set_cons_zero, List.set_cons_succ]
          refine wpAnyH_take (i := 5) (v := .bool true) rfl (by kernel_rfl) (by kernel_rfl) (by kernel_rfl) (fun _ _ _ h => h) (Or.inl ⟨by rfl, fun w hSw => by go_simp⟩) trivial ?_
          simp only [List.getElem_toArray, List.getElem_cons_succ, List.getElem_cons_zero, Act.put, List.setIfInBounds_toArray, List.set_cons_zero, List.set_cons_succ]
          refine wpAnyH_take (i := 6) (v := .slice ao 0 c) rfl (by kernel_rfl) (by kernel_rfl) (by kernel_rfl) (fun _ _ _ h => h) (Or.inl ⟨by rfl, fun w hSw => by go_simp⟩) trivial ?_
          simp only [List.getElem_toArray, List.getElem_cons_succ, List.getElem_cons_zero, Act.put, List.setIfInBounds_toArray, List.set_cons_zero, List.set_cons_succ]
          refine wpAnyH_take (i := 7) (v := .int .i64 0) rfl (by kernel_rfl) (by kernel_rfl) (by kernel_rfl) (fun _ _ _ h => h) (Or.inl ⟨by rfl, fun w hSw => by go_simp⟩) trivial ?_
          simp only [List.getElem_toArray, List.getElem_cons_succ, List.getElem_cons_zero, Act.put, List.setIfInBounds_toArray, List.set_cons_zero, List.set_cons_succ]
          refine wpAnyH_take (i := 8) (v := .bool true) rfl (by kernel_rfl) (by kernel_rfl) (by kernel_rfl) (fun _ _ _ h => h) (Or.inl ⟨by rfl, fun w hSw => by go_simp⟩) trivial ?_
          simp only [List.getElem_toArray, List.getElem_cons_succ, List.getElem_cons_zero, Act.put, List.setIfInBounds_toArray, List.set_cons_zero, List.set_cons_succ]
          refine wpAnyH_take (i := 9) (v := .bool true) rfl (by kernel_rfl) (by kernel_rfl) (by kernel_rfl) (fun _ _ _ h => h) (Or.inl ⟨by rfl, fun w hSw => by go_simp⟩) trivial ?_
          simp only [List.getElem_toArray, List.getElem_cons_succ, List.getElem_cons_zero, Act.put, List.setIfInBounds_toArray, List.set_cons_zero, List.set_cons_succ]
          refine wpAnyH_take (i := 10) (v := undef) rfl (by kernel_rfl) (by kernel_rfl) (by kernel_rfl) (fun _ _ _ h => h) (Or.inr ⟨by rfl, rfl⟩) trivial ?_
          simp only [List.getElem_toArray, List.getElem_cons_succ, List.getElem_cons_zero, Act.put, List.setIfInBounds_toArray, List.set_cons_zero, List.set_cons_succ]
          refine wpAnyH_take (i := 11) (v := undef) rfl (by kernel_rfl) (by kernel_rfl) (by kernel_rfl) (fun _ _ _ h => h) (Or.inr ⟨by rfl, rfl⟩) trivial ?_
          simp only [List.getElem_toArray, List.getElem_cons_succ, List.getElem_cons_zero, Act.put, List.setIfInBounds_toArray, List.set_cons_zero, List.set_cons_succ]
          refine wpAnyH_take (i := 12) (v := undef) rfl (by kernel_rfl) (by kernel_rfl) (by kernel_rfl) (fun _ _ _ h => h) (Or.inr ⟨by rfl, rfl⟩) trivial ?_
          simp only [List.getElem_toArray, List.getElem_cons_succ, List.getElem_cons_zero, Act.put, List.setIfInBounds_toArray, List.set_cons_zero, List.set_cons_succ]
          refine wpAnyH_take (i := 14) (v := undef) rfl (by kernel_rfl) (by kernel_rfl) (by kernel_rfl) (fun _ _ _ h => h) (Or.inr ⟨by rfl, rfl⟩) trivial ?_
          simp only [List.getElem_toArray, List.getElem_cons_succ, List.getElem_cons_zero, Act.put, List.setIfInBounds_toArray, List.set_cons_zero, List.set_cons_succ]
          refine wpAnyH_take (i := 15) (v := undef) rfl (by kernel_rfl) (by kernel_rfl) (by kernel_rfl) (fun _ _ _ h => h) (Or.inr ⟨by rfl, rfl⟩) trivial ?_
          simp only [List.getElem_toArray, List.getElem_cons_succ, List.getElem_cons_zero, Act.put, List.setIfInBounds_toArray, List.set_cons_zero, List.set_cons_succ]
          refine wpAnyH_take (i := 16) (v := undef) rfl (by kernel_rfl) (by kernel_rfl) (by kernel_rfl) (fun _ _ _ h => h) (Or.inr ⟨by rfl, rfl⟩) trivial ?_
          simp only [List.getElem_toArray, List.getElem_cons_succ, List.getElem_cons_zero, Act.put, List.setIfInBounds_toArray, List.set_cons_zero, List.set_cons_succ]
          refine wpAnyH_take (i := 13) (v := undef) rfl (by kernel_rfl) (by kernel_rfl) (by kernel_rfl) (fun _ _ _ h => h) (Or.inr ⟨by rfl, rfl⟩) trivial ?_
          simp only [List.getElem_toArray, List.getElem_cons_succ, List.getElem_cons_zero, Act.put, List.setIfInBounds_toArray, List.set_cons_zero, List.set_cons_succ]
          refine wpAnyH_take (i := 17) (v := undef) rfl (by kernel_rfl) (by kernel_rfl) (by kernel_rfl) (fun _ _ _ h => h) (Or.inr ⟨by rfl, rfl⟩) trivial ?_
          simp only [List.getElem_toArray, List.getElem_cons_succ, List.getElem_cons_zero, Act.put, List.setIfInBounds_toArray, List.set_cons_zero, List.set_cons_succ]
          refine wpAnyH_take (i := 18) (v := undef) rfl (by kernel_rfl) (by kernel_rfl) (by kernel_rfl) (fun _ _ _ h => h) (Or.inr ⟨by rfl, rfl⟩) trivial ?_
          simp only [List.getElem_toArray, List.getElem_cons_succ, List.getElem_cons_zero, Act.put, List.setIfInBounds_toArray, List.set_cons_zero, List.set_cons_succ]
          refine wpAnyH_take (i := 19) (v := .bool true) rfl (by kernel_rfl) (by kernel_rfl) (by kernel_rfl) (fun _ _ _ h => h) (Or.inl ⟨by rfl, fun w hSw => by go_simp⟩) trivial ?_
          simp only [List.getElem_toArray, List.getElem_cons_succ, List.getElem_cons_zero, Act.put, List.setIfInBounds_toArray, List.set_cons_zero, List.set_cons_succ]
          refine wpAnyH_take (i := 20) (v := .bool true) rfl (by kernel_rfl) (by kernel_rfl) (by kernel_rfl) (fun _ _ _ h => h) (Or.inl ⟨by rfl, fun w hSw => by go_simp⟩) trivial ?_
          simp only [List.getElem_toArray, List.getElem_cons_succ, List.getElem_cons_zero, Act.put, List.setIfInBounds_toArray, List.set_cons_zero, List.set_cons_succ]
          refine wpAnyH_take (i := 21) (v := .bool true) rfl (by kernel_rfl) (by kernel_rfl) (by kernel_rfl) (fun _ _ _ h => h) (Or.inl ⟨by rfl, fun w hSw => by go_simp⟩) trivial ?_
          simp only [List.getElem_toArray, List.getElem_cons_succ, List.getElem_cons_zero, Act.put, List.setIfInBounds_toArray, List.set_cons_zero, List.set_cons_succ]
          refine wpAnyH_take (i := 22) (v := .slice (some ⟨bx, 0, none⟩) 0 cx) rfl (by kernel_rfl) (by kernel_rfl) (by kernel_rfl) (fun _ _ _ h => h) (Or.inl ⟨by rfl, fun w hSw => by go_simp⟩) trivial ?_
          simp only [List.getElem_toArray, List.getElem_cons_succ, List.getElem_cons_zero, Act.put, List.setIfInBounds_toArray, List.set_cons_zero, List.set_cons_succ]
          refine wpAnyH_take (i := 23) (v := .slice ao 0 c) rfl (by kernel_rfl) (by kernel_rfl) (by kernel_rfl) (fun _ _ _ h => h) (Or.inl ⟨by rfl, fun w hSw => by go_simp⟩) trivial ?_
          simp only [List.getElem_toArray, List.getElem_cons_succ, List.getElem_cons_zero, Act.put, List.setIfInBounds_toArray, List.set_cons_zero, List.set_cons_succ]
          refine wpAnyH_step (i := 24) (by kernel_rfl) rfl fun K hK => ?_
          go_simp
          refine (KeptTexts_any _ _ _ l HLT.out HLL.out (by have := HN.out; omega)).mono ?_
          rintro e wn ⟨rfl, tn⟩
          have PP := Lib.hid (PP.out.pure tn); have HLT := Lib.hid (HLT.out.pure tn); have HLL := Lib.hid (HLL.out.pure tn)
          clear tn
          refine hK.out _ _ trivial ?_
          clear hK K
          try simp only [List.getElem_toArray, List.getElem_cons_succ, List.getElem_cons_zero, Act.put, List.setIfInBounds_toArray, List.set_cons_zero, List.set_cons_succ]
          refine wpAnyH_take (i := 25) (v := .bool true) rfl (by kernel_rfl) (by kernel_rfl) (by kernel_rfl) (fun _ _ _ h => h) (Or.inl ⟨by rfl, fun w hSw => by go_simp⟩) trivial ?_
          simp only [List.getElem_toArray, List.getElem_cons_succ, List.getElem_cons_zero, Act.put, List.setIfInBounds_toArray, List.set_cons_zero, List.set_cons_succ]
          refine wpAnyH_take (i := 26) (v := .bool true) rfl (by kernel_rfl) (by kernel_rfl) (by kernel_rfl) (fun _ _ _ h => h) (Or.inl ⟨by rfl, fun w hSw => by go_simp⟩) trivial ?_
          simp only [List.getElem_toArray, List.getElem_cons_succ, List.getElem_cons_zero, Act.put, List.setIfInBounds_toArray, List.set_cons_zero, List.set_cons_succ]
          refine wpAnyH_step (i := 27) (by kernel_rfl) rfl fun K hK => ?_
          go_simp
          refine (awake9 _).mono ?_
          rintro e wn ⟨rfl, tn⟩
          have PP := Lib.hid (PP.out.pure tn); have HLT := Lib.hid (HLT.out.pure tn); have HLL := Lib.hid (HLL.out.pure tn)
          clear tn
          refine hK.out _ _ trivial ?_
          clear hK K
          try simp only [List.getElem_toArray, List.getElem_cons_succ, List.getElem_cons_zero, Act.put, List.setIfInBounds_toArray, List.set_cons_zero, List.set_cons_succ]
          refine wpAnyH_take (i := 28) (v := .bool true) rfl (by kernel_rfl) (by kernel_rfl) (by kernel_rfl) (fun _ _ _ h => h) (Or.inl ⟨by rfl, fun w hSw => by go_simp⟩) trivial ?_
          simp only [List.getElem_toArray, List.getElem_cons_succ, List.getElem_cons_zero, Act.put, List.setIfInBounds_toArray, List.set_cons_zero, List.set_cons_succ]
          refine wpAnyH_take (i := 29) (v := .bool true) rfl (by kernel_rfl) (by kernel_rfl) (by kernel_rfl) (fun _ _ _ h => h) (Or.inl ⟨by rfl, fun w hSw => by go_simp⟩) trivial ?_
          simp only [List.getElem_toArray, List.getElem_cons_succ, List.getElem_cons_zero, Act.put, List.setIfInBounds_toArray, List.set_cons_zero, List.set_cons_succ]
          refine wpAnyH_done (by kernel_rfl) ?_ _
          go_wp2
          go_ret
          exact ⟨rfl, PP.out⟩
        · have hne : l ≠ [] := fun e => hn0 (by have := HN.out; rw [e] at this; simpa using this)
          obtain ⟨b, o, rfl, hr⟩ := HA.out hne
          obtain ⟨x0, hx0e⟩ : ∃ x0, x0 = l[0]'(List.length_pos_iff.2 hne) := ⟨_, rfl⟩
          have hx0 : x0.length ≤ 140737488351232 := by rw [hx0e]; exact hf _ (List.getElem_mem _)
          have hc0 : w.cell? ⟨b, o + 0, none⟩ = some (.string (bstr x0)) := hr 0 _ (by rw [hx0e]; simp [strs, List.length_pos_iff.2 hne])
          rw [Nat.add_zero] at hc0
          have HC0 := Lib.hid (show wr.cell? ⟨b, o, none⟩ = some (.string (bstr x0)) from PP.out.cell hc0 (fun e => e))
          clear hc0 hr hx0e
          have n0 : ((n : Int) == 0) = false := by simp; omega
          have n0n : (n == 0) = false := by simp; omega
          have np : (0 : Int) < n := by omega
          have hLl : (leafV x0).length = 32 := leafV_length _
          have sL := fun V => same28 V hLl
          go_wp2_with fail
          refine wp_region_held_drew (S := fun w' => w'.cell? ⟨b, o, none⟩ = some (.string (bstr x0))) (by kernel_rfl) (show wr.drew.cell? ⟨b, o, none⟩ = some (.string (bstr x0)) from HC0.out) (fun hHeld => ?_)
          have HS := Lib.hid hHeld
          clear hHeld HC0
          have PP := Lib.hid PP.out.drew
          have HLT := Lib.hid (HLT.out.pure ((Turn.refl (fun _ => False) wr).drew))
          have HLL := Lib.hid (HLL.out.pure ((Turn.refl (fun _ => False) wr).drew))
          clear HTa
          generalize wr.drew = wr at *
          refine wpAnyH_take (i := 0) (v := .slice (some ⟨bx, 0, none⟩) n cx) rfl (by kernel_rfl) (by kernel_rfl) (by kernel_rfl) (fun _ _ _ h => h) (Or.inl ⟨by rfl, fun w hSw => by go_simp⟩) HS.out ?_
          simp only [List.getElem_toArray, List.getElem_cons_zero, Act.put, List.setIfInBounds_toArray, List.set_cons_zero, List.set_cons_succ]
          refine wpAnyH_take (i := 2) (v := .slice (some ⟨b, o, none⟩) n c) rfl (by kernel_rfl) (by kernel_rfl) (by kernel_rfl) (fun _ _ _ h => h) (Or.inl ⟨by rfl, fun w hSw => by go_simp⟩) HS.out ?_
          simp only [List.getElem_toArray, List.getElem_cons_succ, List.getElem_cons_zero, Act.put, List.setIfInBounds_toArray, List.set_cons_zero, List.set_cons_succ]
          refine wpAnyH_step (i := 1) (by kernel_rfl) rfl fun K hK => ?_
          go_simp
          refine (Root_texts _ _ l HLT.out.texts hf (by have := HN.out; omega)).mono ?_
          rintro e wn ⟨rfl, tn⟩
          have PP := Lib.hid (PP.out.pure tn); have HLT := Lib.hid (HLT.out.pure tn); have HLL := Lib.hid (HLL.out.pure tn); have HS := Lib.hid (tn.cell HS.out (fun e => e))
          clear tn
          refine hK.out _ _ HS.out ?_
          clear hK K
          try simp only [List.getElem_toArray, List.getElem_cons_succ, List.getElem_cons_zero, Act.put, List.setIfInBounds_toArray, List.set_cons_zero, List.set_cons_succ]
          refine wpAnyH_step (i := 3) (by kernel_rfl) rfl fun K hK => ?_
          go_simp
          refine (RRoot_texts _ _ l HLL.out hf (by have := HN.out; omega)).mono ?_
          rintro e wn ⟨rfl, tn⟩
          have PP := Lib.hid (PP.out.pure tn); have HLT := Lib.hid (HLT.out.pure tn); have HLL := Lib.hid (HLL.out.pure tn); have HS := Lib.hid (tn.cell HS.out (fun e => e))
          clear tn
          refine hK.out _ _ HS.out ?_
          clear hK K
          try simp only [List.getElem_toArray, List.getElem_cons_succ, List.getElem_cons_zero, Act.put, List.setIfInBounds_toArray, List.set_cons_zero, List.set_cons_succ]
          refine wpAnyH_take (i := 4) (v := .bool true) rfl (by kernel_rfl) (by kernel_rfl) (by kernel_rfl) (fun _ _ _ h => h) (Or.inl ⟨by rfl, fun w hSw => by go_simp⟩) HS.out ?_
          simp only [List.getElem_toArray, List.getElem_cons_succ, List.getElem_cons_zero, Act.put, List.setIfInBounds_toArray, List.set_cons_zero, List.set_cons_succ]
          refine wpAnyH_take (i := 5) (v := .bool true) rfl (by kernel_rfl) (by kernel_rfl) (by kernel_rfl) (fun _ _ _ h => h) (Or.inl ⟨by rfl, fun w hSw => by go_simp⟩) HS.out ?_
          simp only [List.getElem_toArray, List.getElem_cons_succ, List.getElem_cons_zero, Act.put, List.setIfInBounds_toArray, List.set_cons_zero, List.set_cons_succ]
          refine wpAnyH_take (i := 6) (v := .slice (some ⟨b, o, none⟩) n c) rfl (by kernel_rfl) (by kernel_rfl) (by kernel_rfl) (fun _ _ _ h => h) (Or.inl ⟨by rfl, fun w hSw => by go_simp⟩) HS.out ?_
          simp only [List.getElem_toArray, List.getElem_cons_succ, List.getElem_cons_zero, Act.put, List.setIfInBounds_toArray, List.set_cons_zero, List.set_cons_succ]
          refine wpAnyH_take (i := 7) (v := .int .i64 (n : Int)) rfl (by kernel_rfl) (by kernel_rfl) (by kernel_rfl) (fun _ _ _ h => h) (Or.inl ⟨by rfl, fun w hSw => by go_simp⟩) HS.out ?_
          simp only [List.getElem_toArray, List.getElem_cons_succ, List.getElem_cons_zero, Act.put, List.setIfInBounds_toArray, List.set_cons_zero, List.set_cons_succ]
          refine wpAnyH_take (i := 8) (v := .bool false) rfl (by kernel_rfl) (by kernel_rfl) (by kernel_rfl) (fun _ _ _ h => h) (Or.inl ⟨by rfl, fun w hSw => by go_simp⟩) HS.out ?_
          simp only [List.getElem_toArray, List.getElem_cons_succ, List.getElem_cons_zero, Act.put, List.setIfInBounds_toArray, List.set_cons_zero, List.set_cons_succ]
          refine wpAnyH_take (i := 9) (v := .bool false) rfl (by kernel_rfl) (by kernel_rfl) (by kernel_rfl) (fun _ _ _ h => h) (Or.inl ⟨by rfl, fun w hSw => by go_simp⟩) HS.out ?_
          simp only [List.getElem_toArray, List.getElem_cons_succ, List.getElem_cons_zero, Act.put, List.setIfInBounds_toArray, List.set_cons_zero, List.set_cons_succ]
          refine wpAnyH_take (i := 10) (v := .slice (some ⟨b, o, none⟩) n c) rfl (by kernel_rfl) (by kernel_rfl) (by kernel_rfl) (fun _ _ _ h => h) (Or.inl ⟨by rfl, fun w hSw => by go_simp⟩) HS.out ?_
          simp only [List.getElem_toArray, List.getElem_cons_succ, List.getElem_cons_zero, Act.put, List.setIfInBounds_toArray, List.set_cons_zero, List.set_cons_succ]
          refine wpAnyH_take (i := 11) (v := .pointer (some ⟨b, o, none⟩)) rfl (by kernel_rfl) (by kernel_rfl) (by kernel_rfl) (fun _ _ _ h => h) (Or.inl ⟨by rfl, fun w hSw => by go_simp⟩) HS.out ?_
          simp only [List.getElem_toArray, List.getElem_cons_succ, List.getElem_cons_zero, Act.put, List.setIfInBounds_toArray, List.set_cons_zero, List.set_cons_succ]
          refine wpAnyH_take (i := 12) (v := .string (bstr x0)) rfl (by kernel_rfl) (by kernel_rfl) (by kernel_rfl) (fun _ _ _ h => h) (Or.inl ⟨by rfl, fun w hSw => by go_simp⟩) HS.out ?_
          simp only [List.getElem_toArray, List.getElem_cons_succ, List.getElem_cons_zero, Act.put, List.setIfInBounds_toArray, List.set_cons_zero, List.set_cons_succ]
          refine wpAnyH_take (i := 14) (v := .slice (some ⟨b, o, none⟩) n c) rfl (by kernel_rfl) (by kernel_rfl) (by kernel_rfl) (fun _ _ _ h => h) (Or.inl ⟨by rfl, fun w hSw => by go_simp⟩) HS.out ?_
          simp only [List.getElem_toArray, List.getElem_cons_succ, List.getElem_cons_zero, Act.put, List.setIfInBounds_toArray, List.set_cons_zero, List.set_cons_succ]
          refine wpAnyH_take (i := 15) (v := .pointer (some ⟨b, o, none⟩)) rfl (by kernel_rfl) (by kernel_rfl) (by kernel_rfl) (fun _ _ _ h => h) (Or.inl ⟨by rfl, fun w hSw => by go_simp⟩) HS.out ?_
          simp only [List.getElem_toArray, List.getElem_cons_succ, List.getElem_cons_zero, Act.put, List.setIfInBounds_toArray, List.set_cons_zero, List.set_cons_succ]
          refine wpAnyH_take (i := 16) (v := .string (bstr x0)) rfl (by kernel_rfl) (by kernel_rfl) (by kernel_rfl) (fun _ _ _ h => h) (Or.inl ⟨by rfl, fun w hSw => by go_simp⟩) HS.out ?_
          simp only [List.getElem_toArray, List.getElem_cons_succ, List.getElem_cons_zero, Act.put, List.setIfInBounds_toArray, List.set_cons_zero, List.set_cons_succ]
          refine wpAnyH_step (i := 13) (by kernel_rfl) rfl fun K hK => ?_
          go_simp
          refine (Leaf_any _ x0 hx0).mono ?_
          rintro e wn ⟨rfl, tn⟩
          have PP := Lib.hid (PP.out.pure tn); have HLT := Lib.hid (HLT.out.pure tn); have HLL := Lib.hid (HLL.out.pure tn); have HS := Lib.hid (tn.cell HS.out (fun e => e))
          clear tn
          refine hK.out _ _ HS.out ?_
          clear hK K
          try simp only [List.getElem_toArray, List.getElem_cons_succ, List.getElem_cons_zero, Act.put, List.setIfInBounds_toArray, List.set_cons_zero, List.set_cons_succ]
          refine wpAnyH_step (i := 17) (by kernel_rfl) rfl fun K hK => ?_
          go_simp
          refine (RLeaf_any _ x0 hx0).mono ?_
          rintro e wn ⟨rfl, tn⟩
          have PP := Lib.hid (PP.out.pure tn); have HLT := Lib.hid (HLT.out.pure tn); have HLL := Lib.hid (HLL.out.pure tn); have HS := Lib.hid (tn.cell HS.out (fun e => e))
          clear tn
          refine hK.out _ _ HS.out ?_
          clear hK K
          try simp only [List.getElem_toArray, List.getElem_cons_succ, List.getElem_cons_zero, Act.put, List.setIfInBounds_toArray, List.set_cons_zero, List.set_cons_succ]
          refine wpAnyH_take (i := 18) (v := .bool true) rfl (by kernel_rfl) (by kernel_rfl) (by kernel_rfl) (fun _ _ _ h => h) (Or.inl ⟨by rfl, fun w hSw => by go_simp⟩) HS.out ?_
          simp only [List.getElem_toArray, List.getElem_cons_succ, List.getElem_cons_zero, Act.put, List.setIfInBounds_toArray, List.set_cons_zero, List.set_cons_succ]
          refine wpAnyH_take (i := 19) (v := .bool true) rfl (by kernel_rfl) (by kernel_rfl) (by kernel_rfl) (fun _ _ _ h => h) (Or.inl ⟨by rfl, fun w hSw => by go_simp⟩) HS.out ?_
          simp only [List.getElem_toArray, List.getElem_cons_succ, List.getElem_cons_zero, Act.put, List.setIfInBounds_toArray, List.set_cons_zero, List.set_cons_succ]
          refine wpAnyH_take (i := 20) (v := .bool true) rfl (by kernel_rfl) (by kernel_rfl) (by kernel_rfl) (fun _ _ _ h => h) (Or.inl ⟨by rfl, fun w hSw => by go_simp⟩) HS.out ?_
          simp only [List.getElem_toArray, List.getElem_cons_succ, List.getElem_cons_zero, Act.put, List.setIfInBounds_toArray, List.set_cons_zero, List.set_cons_succ]
          refine wpAnyH_take (i := 21) (v := .bool true) rfl (by kernel_rfl) (by kernel_rfl) (by kernel_rfl) (fun _ _ _ h => h) (Or.inl ⟨by rfl, fun w hSw => by go_simp⟩) HS.out ?_
          simp only [List.getElem_toArray, List.getElem_cons_succ, List.getElem_cons_zero, Act.put, List.setIfInBounds_toArray, List.set_cons_zero, List.set_cons_succ]
          refine wpAnyH_take (i := 22) (v := .slice (some ⟨bx, 0, none⟩) n cx) rfl (by kernel_rfl) (by kernel_rfl) (by kernel_rfl) (fun _ _ _ h => h) (Or.inl ⟨by rfl, fun w hSw => by go_simp⟩) HS.out ?_
          simp only [List.getElem_toArray, List.getElem_cons_succ, List.getElem_cons_zero, Act.put, List.setIfInBounds_toArray, List.set_cons_zero, List.set_cons_succ]
          refine wpAnyH_take (i := 23) (v := .slice (some ⟨b, o, none⟩) n c) rfl (by kernel_rfl) (by kernel_rfl) (by kernel_rfl) (fun _ _ _ h => h) (Or.inl ⟨by rfl, fun w hSw => by go_simp⟩) HS.out ?_
          simp only [List.getElem_toArray, List.getElem_cons_succ, List.getElem_cons_zero, Act.put, List.setIfInBounds_toArray, List.set_cons_zero, List.set_cons_succ]
          refine wpAnyH_step (i := 24) (by kernel_rfl) rfl fun K hK => ?_
          go_simp
          refine (KeptTexts_any _ _ _ l HLT.out HLL.out (by have := HN.out; omega)).mono ?_
          rintro e wn ⟨rfl, tn⟩
          have PP := Lib.hid (PP.out.pure tn); have HLT := Lib.hid (HLT.out.pure tn); have HLL := Lib.hid (HLL.out.pure tn); have HS := Lib.hid (tn.cell HS.out (fun e => e))
          clear tn
          refine hK.out _ _ HS.out ?_
          clear hK K
          try simp only [List.getElem_toArray, List.getElem_cons_succ, List.getElem_cons_zero, Act.put, List.setIfInBounds_toArray, List.set_cons_zero, List.set_cons_succ]
          refine wpAnyH_take (i := 25) (v := .bool true) rfl (by kernel_rfl) (by kernel_rfl) (by kernel_rfl) (fun _ _ _ h => h) (Or.inl ⟨by rfl, fun w hSw => by go_simp⟩) HS.out ?_
          simp only [List.getElem_toArray, List.getElem_cons_succ, List.getElem_cons_zero, Act.put, List.setIfInBounds_toArray, List.set_cons_zero, List.set_cons_succ]
          refine wpAnyH_take (i := 26) (v := .bool true) rfl (by kernel_rfl) (by kernel_rfl) (by kernel_rfl) (fun _ _ _ h => h) (Or.inl ⟨by rfl, fun w hSw => by go_simp⟩) HS.out ?_
          simp only [List.getElem_toArray, List.getElem_cons_succ, List.getElem_cons_zero, Act.put, List.setIfInBounds_toArray, List.set_cons_zero, List.set_cons_succ]
          refine wpAnyH_step (i := 27) (by kernel_rfl) rfl fun K hK => ?_
          go_simp
          refine (awake9 _).mono ?_
          rintro e wn ⟨rfl, tn⟩
          have PP := Lib.hid (PP.out.pure tn); have HLT := Lib.hid (HLT.out.pure tn); have HLL := Lib.hid (HLL.out.pure tn); have HS := Lib.hid (tn.cell HS.out (fun e => e))
          clear tn
          refine hK.out _ _ HS.out ?_
          clear hK K
          try simp only [List.getElem_toArray, List.getElem_cons_succ, List.getElem_cons_zero, Act.put, List.setIfInBounds_toArray, List.set_cons_zero, List.set_cons_succ]
          refine wpAnyH_take (i := 28) (v := .bool true) rfl (by kernel_rfl) (by kernel_rfl) (by kernel_rfl) (fun _ _ _ h => h) (Or.inl ⟨by rfl, fun w hSw => by go_simp⟩) HS.out ?_
          simp only [List.getElem_toArray, List.getElem_cons_succ, List.getElem_cons_zero, Act.put, List.setIfInBounds_toArray, List.set_cons_zero, List.set_cons_succ]
          refine wpAnyH_take (i := 29) (v := .bool true) rfl (by kernel_rfl) (by kernel_rfl) (by kernel_rfl) (fun _ _ _ h => h) (Or.inl ⟨by rfl, fun w hSw => by go_simp⟩) HS.out ?_
          simp only [List.getElem_toArray, List.getElem_cons_succ, List.getElem_cons_zero, Act.put, List.setIfInBounds_toArray, List.set_cons_zero, List.set_cons_succ]
          refine wpAnyH_done (by kernel_rfl) ?_ _
          go_wp2
          go_ret
          exact ⟨rfl, PP.out⟩
end Go.Proofs.Ytjbigghjbcjelaa
