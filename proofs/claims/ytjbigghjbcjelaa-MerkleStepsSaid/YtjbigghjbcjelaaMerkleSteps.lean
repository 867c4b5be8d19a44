/- The law MerkleSteps: a tree that grows leaf by leaf has the roots of its beginnings. -/
import Derived.Test.YtjbigghjbcjelaaTreeP
namespace Go.Proofs.Ytjbigghjbcjelaa
open Go.RowKit

set_option maxRecDepth 100000 in
set_option maxHeartbeats 2000000 in
theorem MerkleSteps_true (w : World) (v : Value) (l : List (List UInt8)) (other : List UInt8) (h : Texts w v l) (hf : Fits l) (hl : l.length ≤ 8796093021952) (ho : other.length ≤ 140737488351232) :
    Calls Try.prog 5 #[v, .string (bstr other)] w fun e w' => e = .returned (.bool true) ∧ Pure w w' := by
  have HL := Lib.hid h
  obtain ⟨ao, c, rfl, hlc, ha⟩ := h
  have HA := Lib.hid ha; clear ha
  obtain ⟨n, hn⟩ : ∃ n, n = l.length := ⟨_, rfl⟩
  rw [← hn] at hlc hl ⊢
  have HN := Lib.hid hn; clear hn
  go_enter Try.func5, Try.ntmps5
  go_wp2_with fail
  refine (awake9 _).mono ?_
  rintro e w1 ⟨rfl, t1⟩
  have P1 := Lib.hid t1; clear t1
  go_wp2_with fail
  refine (TNew_any _).mono ?_
  rintro e w2 ⟨ga, rfl, hta, hga, t2⟩
  have lga : w.heap.size ≤ ga := by have := P1.out.size; omega
  have HTa := Lib.hid hta
  have sga := (Array.getElem?_eq_some_iff.1 hta.at_).1
  have P2 := Lib.hid (P1.out.pure t2)
  clear hta t2 P1 hga
  go_wp2_with fail
  refine (TNew_any _).mono ?_
  rintro e w3 ⟨gb, rfl, htb, hgb, t3⟩
  have lgb : ga < gb := by omega
  have HTa := Lib.hid (HTa.out.turn t3 (fun e => e) (fun _ _ e => e))
  have HTb := Lib.hid htb
  have PP := Lib.hid (P2.out.pure t3)
  clear htb t3 P2 hgb sga
  go_wp2
  go_loopw [4, 7] (fun _ i wr => ∃ (k : Nat) (va vb : Value), k ≤ n ∧ k ≤ 40 ∧ i = .int .i64 (k : Int) ∧ Hid (TreeAt wr ga va (rowsOf (l.take k)) (l.take k).length) ∧ Hid (TreeAt wr gb vb (rowsOf (List.replicate k other)) (List.replicate k other).length) ∧ Hid (∀ q, va.ownBlock = some q → q ≠ gb) ∧ Hid (∀ q, vb.ownBlock = some q → q ≠ ga) ∧ Hid (Pure w wr)) (fun _ i _ => n - (intOf i).toNat)
  case atStart => exact ⟨0, .slice none 0 0, .slice none 0 0, by omega, by omega, rfl, Lib.hid (by rw [List.take_zero]; exact HTa.out), Lib.hid (by rw [List.replicate_zero]; exact HTb.out), Lib.hid (fun q hq => by simp [Value.ownBlock] at hq), Lib.hid (fun q hq => by simp [Value.ownBlock] at hq), PP⟩
  case round =>
    clear HTa HTb PP
    obtain ⟨k, va, vb, hkn, hk40, rfl, HTa, HTb, HVa, HVb, PP⟩ := hrel
    by_cases hgo : k < n ∧ k < 40
    · obtain ⟨h1, h2⟩ := hgo
      have q1 : (k : Int) < n := by omega
      have q2 : (k : Int) < 40 := by omega
      have q3 : decide ((k : Int) < n) = true := decide_eq_true q1
      have q4 : decide ((k : Int) < 40) = true := decide_eq_true q2
      have q3n : decide (k < n) = true := decide_eq_true h1
      have q4n : decide (k < 40) = true := decide_eq_true h2
      have q0 : (0 : Int) ≤ k := by omega
      have hkl : k < l.length := by have := HN.out; omega
      obtain ⟨x, hx⟩ : ∃ x, x = l[k] := ⟨_, rfl⟩
      have hxl : x.length ≤ 140737488351232 := by rw [hx]; exact hf _ (List.getElem_mem hkl)
      obtain ⟨b, o, rfl, hr⟩ := HA.out (fun e => by rw [e] at hkl; simp at hkl)
      have hcell : w.cell? ⟨b, o + k, none⟩ = some (.string (bstr x)) := hr k _ (by rw [hx]; simp [strs, hkl])
      have hcell := PP.out.cell hcell (fun e => e)
      have htk : l.take (k + 1) = l.take k ++ [x] := by rw [List.take_succ_eq_append_getElem hkl, hx]
      have htx : Texts w (.slice (some ⟨b, o, none⟩) (k + 1) c) (l.take (k + 1)) := ⟨_, c, by rw [List.length_take, Nat.min_eq_left (by omega)], by rw [List.length_take]; omega, fun _ => ⟨b, o, rfl, strs_take hr (k + 1)⟩⟩
      have hfA : Fits (l.take (k + 1)) := fun y hy => hf y (List.mem_of_mem_take hy)
      have hlA : (l.take (k + 1)).length = k + 1 := by rw [List.length_take]; omega
      have hlk : (l.take k).length = k := by rw [List.length_take]; omega
      have hrk : (List.replicate k other).length = k := List.length_replicate
      have hrep : List.replicate k other ++ [other] = List.replicate (k + 1) other := by rw [List.replicate_succ']
      obtain ⟨j, hj⟩ : ∃ j, j = k + 1 := ⟨_, rfl⟩
      rw [← hj] at htx hfA hlA htk hrep
      have i1 : IntKind.i64.wrap ((k : Int) + 1) = (j : Int) := by rw [IntWalk.i64_in _ (by omega)]; omega
      have qj : (j : Int) ≤ c := by omega
      have qj0 : (0 : Int) ≤ j := by omega
      have qc : ¬ c = 0 := by omega
      have HX := Lib.hid (And.intro htk (And.intro hlA (And.intro hlk (And.intro hrk (And.intro hrep hj)))))
      have HTX0 := Lib.hid htx
      have hj1000 : j ≤ 40 := by omega
      clear hx hr htx htk hlA hlk hrk hrep hj hkl
      go_wp2_with fail
      refine (TAppend_of _ ga va (l.take k) x HTa.out hxl (by have := HX.out; omega)).mono ?_
      rintro e w4 ⟨rfl, va', ta', na', t4⟩
      rw [← HX.out.1] at ta'
      have hs4 := (Array.getElem?_eq_some_iff.1 HTb.out.at_).1
      have HVa' : Hid (∀ q, va'.ownBlock = some q → q ≠ gb) := Lib.hid fun q hq => by have := na' q hq; omega
      have HTb4 := Lib.hid (HTb.out.turn t4 (by omega) (fun q hq e => HVb.out q hq e))
      have P4 := Lib.hid (PP.out.trans t4 fun i hi e => by omega : Pure w w4)
      have HTa4 := Lib.hid ta'
      clear ta' na' t4 hs4 HTa HTb HVa PP hcell
      go_wp2_with fail
      refine (TAppend_of _ gb vb (List.replicate k other) other HTb4.out ho (by have := HX.out; omega)).mono ?_
      rintro e w5 ⟨rfl, vb', tb', nb', t5⟩
      rw [HX.out.2.2.2.2.1] at tb'
      have hs5 := (Array.getElem?_eq_some_iff.1 HTa4.out.at_).1
      have HVb' : Hid (∀ q, vb'.ownBlock = some q → q ≠ ga) := Lib.hid fun q hq => by have := nb' q hq; omega
      have HTa := Lib.hid (HTa4.out.turn t5 (by omega) (fun q hq e => HVa'.out q hq e))
      have PP := Lib.hid (P4.out.trans t5 fun i hi e => by omega : Pure w w5)
      have HTb := Lib.hid tb'
      have HTX := Lib.hid (HTX0.out.pure PP.out)
      clear tb' nb' t5 hs5 HTa4 HTb4 P4 HVb HTX0
      have hW : (rootV (l.take j)).length = 32 := rootV_length _
      have nW : ∀ V : World, (binOp .neq 28 (hv (rootV (l.take j))) (hv (rootV (l.take j)))).run Try.prog V = .ok (.bool false) V := fun V => by rw [neq28 V hW hW, beq_self_eq_true]; rfl
      have hlj := HX.out.2.1
      have hrj : (List.replicate j other).length = j := List.length_replicate
      have jj : ((j : Int) != (j : Int)) = false := by simp
      go_wp2_with fail
      refine wp_region_held_drew (S := fun _ => True) (by kernel_rfl) trivial (fun _ => ?_)
      have HTa := Lib.hid (HTa.out.turn ((Turn.refl (fun _ => False) w5).drew) (fun e => e) (fun _ _ e => e))
      have HTb := Lib.hid (HTb.out.turn ((Turn.refl (fun _ => False) w5).drew) (fun e => e) (fun _ _ e => e))
      have HTX := Lib.hid (HTX.out.pure ((Turn.refl (fun _ => False) w5).drew))
      have PP := Lib.hid PP.out.drew
      generalize w5.drew = w6 at *
      refine wpAnyH_take (i := 0) (v := .pointer (some ⟨ga, 0, none⟩)) rfl (by kernel_rfl) (by kernel_rfl) (by kernel_rfl) (fun _ _ _ h => h) (Or.inl ⟨by rfl, fun w hSw => by go_simp⟩) trivial ?_
      simp only [List.getElem_toArray, List.getElem_cons_zero, Act.put, List.setIfInBounds_toArray, List.set_cons_zero, List.set_cons_succ]
      refine wpAnyH_take (i := 2) (v := .slice (some ⟨b, o, none⟩) n c) rfl (by kernel_rfl) (by kernel_rfl) (by kernel_rfl) (fun _ _ _ h => h) (Or.inl ⟨by rfl, fun w hSw => by go_simp⟩) trivial ?_
      simp only [List.getElem_toArray, List.getElem_cons_succ, List.getElem_cons_zero, Act.put, List.setIfInBounds_toArray, List.set_cons_zero, List.set_cons_succ]
      refine wpAnyH_take (i := 3) (v := .int .i64 (k : Int)) rfl (by kernel_rfl) (by kernel_rfl) (by kernel_rfl) (fun _ _ _ h => h) (Or.inl ⟨by rfl, fun w hSw => by go_simp⟩) trivial ?_
      simp only [List.getElem_toArray, List.getElem_cons_succ, List.getElem_cons_zero, Act.put, List.setIfInBounds_toArray, List.set_cons_zero, List.set_cons_succ]
      refine wpAnyH_take (i := 4) (v := .int .i64 (j : Int)) rfl (by kernel_rfl) (by kernel_rfl) (by kernel_rfl) (fun _ _ _ h => h) (Or.inl ⟨by rfl, fun w hSw => by go_simp⟩) trivial ?_
      simp only [List.getElem_toArray, List.getElem_cons_succ, List.getElem_cons_zero, Act.put, List.setIfInBounds_toArray, List.set_cons_zero, List.set_cons_succ]
      refine wpAnyH_take (i := 5) (v := .slice (some ⟨b, o, none⟩) j c) rfl (by kernel_rfl) (by kernel_rfl) (by kernel_rfl) (fun _ _ _ h => h) (Or.inl ⟨by rfl, fun w hSw => by go_simp⟩) trivial ?_
      simp only [List.getElem_toArray, List.getElem_cons_succ, List.getElem_cons_zero, Act.put, List.setIfInBounds_toArray, List.set_cons_zero, List.set_cons_succ]
      refine wpAnyH_step (i := 1) (by kernel_rfl) rfl fun K hK => ?_
      go_simp
      refine (TRoot_of _ ga _ _ _ HTa.out).mono ?_
      rintro e wn ⟨rfl, tn⟩
      have HTa := Lib.hid (HTa.out.turn tn (fun e => e) (fun _ _ e => e)); have HTb := Lib.hid (HTb.out.turn tn (fun e => e) (fun _ _ e => e)); have PP := Lib.hid (PP.out.pure tn); have HTX := Lib.hid (HTX.out.pure tn)
      clear tn
      refine hK.out _ _ trivial ?_
      clear hK K
      try simp only [List.getElem_toArray, List.getElem_cons_succ, List.getElem_cons_zero, Act.put, List.setIfInBounds_toArray, List.set_cons_zero, List.set_cons_succ]
      refine wpAnyH_step (i := 6) (by kernel_rfl) rfl fun K hK => ?_
      go_simp
      refine (Root_texts _ _ _ HTX.out hfA (by omega)).mono ?_
      rintro e wn ⟨rfl, tn⟩
      have HTa := Lib.hid (HTa.out.turn tn (fun e => e) (fun _ _ e => e)); have HTb := Lib.hid (HTb.out.turn tn (fun e => e) (fun _ _ e => e)); have PP := Lib.hid (PP.out.pure tn); have HTX := Lib.hid (HTX.out.pure tn)
      clear tn
      refine hK.out _ _ trivial ?_
      clear hK K
      try simp only [List.getElem_toArray, List.getElem_cons_succ, List.getElem_cons_zero, Act.put, List.setIfInBounds_toArray, List.set_cons_zero, List.set_cons_succ]
      refine wpAnyH_take (i := 7) (v := .bool false) rfl (by kernel_rfl) (by kernel_rfl) (by kernel_rfl) (fun _ _ _ h => h) (Or.inl ⟨by rfl, fun w hSw => by go_simp⟩) trivial ?_
      simp only [List.getElem_toArray, List.getElem_cons_succ, List.getElem_cons_zero, Act.put, List.setIfInBounds_toArray, List.set_cons_zero, List.set_cons_succ]
      refine wpAnyH_take (i := 8) (v := .bool false) rfl (by kernel_rfl) (by kernel_rfl) (by kernel_rfl) (fun _ _ _ h => h) (Or.inl ⟨by rfl, fun w hSw => by go_simp⟩) trivial ?_
      simp only [List.getElem_toArray, List.getElem_cons_succ, List.getElem_cons_zero, Act.put, List.setIfInBounds_toArray, List.set_cons_zero, List.set_cons_succ]
      refine wpAnyH_take (i := 9) (v := .pointer (some ⟨ga, 0, none⟩)) rfl (by kernel_rfl) (by kernel_rfl) (by kernel_rfl) (fun _ _ _ h => h) (Or.inl ⟨by rfl, fun w hSw => by go_simp⟩) trivial ?_
      simp only [List.getElem_toArray, List.getElem_cons_succ, List.getElem_cons_zero, Act.put, List.setIfInBounds_toArray, List.set_cons_zero, List.set_cons_succ]
      refine wpAnyH_take (i := 11) (v := .int .i64 (k : Int)) rfl (by kernel_rfl) (by kernel_rfl) (by kernel_rfl) (fun _ _ _ h => h) (Or.inl ⟨by rfl, fun w hSw => by go_simp⟩) trivial ?_
      simp only [List.getElem_toArray, List.getElem_cons_succ, List.getElem_cons_zero, Act.put, List.setIfInBounds_toArray, List.set_cons_zero, List.set_cons_succ]
      refine wpAnyH_take (i := 12) (v := .int .i64 (j : Int)) rfl (by kernel_rfl) (by kernel_rfl) (by kernel_rfl) (fun _ _ _ h => h) (Or.inl ⟨by rfl, fun w hSw => by go_simp⟩) trivial ?_
      simp only [List.getElem_toArray, List.getElem_cons_succ, List.getElem_cons_zero, Act.put, List.setIfInBounds_toArray, List.set_cons_zero, List.set_cons_succ]
      refine wpAnyH_step (i := 10) (by kernel_rfl) rfl fun K hK => ?_
      go_simp
      refine (TSize_any _ ga _ _ _ HTa.out).mono ?_
      rintro e wn ⟨rfl, rfl⟩
      refine hK.out _ _ trivial ?_
      clear hK K
      try simp only [List.getElem_toArray, List.getElem_cons_succ, List.getElem_cons_zero, Act.put, List.setIfInBounds_toArray, List.set_cons_zero, List.set_cons_succ]
      refine wpAnyH_take (i := 13) (v := .bool false) rfl (by kernel_rfl) (by kernel_rfl) (by kernel_rfl) (fun _ _ _ h => h) (Or.inl ⟨by rfl, fun w hSw => by go_simp⟩) trivial ?_
      simp only [List.getElem_toArray, List.getElem_cons_succ, List.getElem_cons_zero, Act.put, List.setIfInBounds_toArray, List.set_cons_zero, List.set_cons_succ]
      refine wpAnyH_take (i := 14) (v := .bool false) rfl (by kernel_rfl) (by kernel_rfl) (by kernel_rfl) (fun _ _ _ h => h) (Or.inl ⟨by rfl, fun w hSw => by go_simp⟩) trivial ?_
      simp only [List.getElem_toArray, List.getElem_cons_succ, List.getElem_cons_zero, Act.put, List.setIfInBounds_toArray, List.set_cons_zero, List.set_cons_succ]
      refine wpAnyH_take (i := 15) (v := .bool false) rfl (by kernel_rfl) (by kernel_rfl) (by kernel_rfl) (fun _ _ _ h => h) (Or.inl ⟨by rfl, fun w hSw => by go_simp⟩) trivial ?_
      simp only [List.getElem_toArray, List.getElem_cons_succ, List.getElem_cons_zero, Act.put, List.setIfInBounds_toArray, List.set_cons_zero, List.set_cons_succ]
      refine wpAnyH_take (i := 16) (v := .pointer (some ⟨gb, 0, none⟩)) rfl (by kernel_rfl) (by kernel_rfl) (by kernel_rfl) (fun _ _ _ h => h) (Or.inl ⟨by rfl, fun w hSw => by go_simp⟩) trivial ?_
      simp only [List.getElem_toArray, List.getElem_cons_succ, List.getElem_cons_zero, Act.put, List.setIfInBounds_toArray, List.set_cons_zero, List.set_cons_succ]
      refine wpAnyH_take (i := 18) (v := .int .i64 (k : Int)) rfl (by kernel_rfl) (by kernel_rfl) (by kernel_rfl) (fun _ _ _ h => h) (Or.inl ⟨by rfl, fun w hSw => by go_simp⟩) trivial ?_
      simp only [List.getElem_toArray, List.getElem_cons_succ, List.getElem_cons_zero, Act.put, List.setIfInBounds_toArray, List.set_cons_zero, List.set_cons_succ]
      refine wpAnyH_take (i := 19) (v := .int .i64 (j : Int)) rfl (by kernel_rfl) (by kernel_rfl) (by kernel_rfl) (fun _ _ _ h => h) (Or.inl ⟨by rfl, fun w hSw => by go_simp⟩) trivial ?_
      simp only [List.getElem_toArray, List.getElem_cons_succ, List.getElem_cons_zero, Act.put, List.setIfInBounds_toArray, List.set_cons_zero, List.set_cons_succ]
      refine wpAnyH_step (i := 17) (by kernel_rfl) rfl fun K hK => ?_
      go_simp
      refine (TSize_any _ gb _ _ _ HTb.out).mono ?_
      rintro e wn ⟨rfl, rfl⟩
      refine hK.out _ _ trivial ?_
      clear hK K
      try simp only [List.getElem_toArray, List.getElem_cons_succ, List.getElem_cons_zero, Act.put, List.setIfInBounds_toArray, List.set_cons_zero, List.set_cons_succ]
      refine wpAnyH_take (i := 20) (v := .bool false) rfl (by kernel_rfl) (by kernel_rfl) (by kernel_rfl) (fun _ _ _ h => h) (Or.inl ⟨by rfl, fun w hSw => by go_simp⟩) trivial ?_
      simp only [List.getElem_toArray, List.getElem_cons_succ, List.getElem_cons_zero, Act.put, List.setIfInBounds_toArray, List.set_cons_zero, List.set_cons_succ]
      refine wpAnyH_take (i := 21) (v := .bool false) rfl (by kernel_rfl) (by kernel_rfl) (by kernel_rfl) (fun _ _ _ h => h) (Or.inl ⟨by rfl, fun w hSw => by go_simp⟩) trivial ?_
      simp only [List.getElem_toArray, List.getElem_cons_succ, List.getElem_cons_zero, Act.put, List.setIfInBounds_toArray, List.set_cons_zero, List.set_cons_succ]
      refine wpAnyH_done (by kernel_rfl) ?_ _
      go_wp2
      exact ⟨⟨j, va', vb', by have := HX.out; omega, hj1000, by first | rfl | trivial, HTa, HTb, HVa', HVb', PP⟩, by have := HX.out; simp [intOf]; omega⟩
    · have hmin : min (n : Int) 40 = (k : Int) := by omega
      have hlk : (l.take k).length = k := by rw [List.length_take]; have := HN.out; omega
      have kk : ((k : Int) == (k : Int)) = true := by simp
      have HSZ := Lib.hid (And.intro hlk hmin)
      by_cases hk1 : k < n
      · have q1 : (k : Int) < n := by omega
        have q2 : ¬ ((k : Int) < 40) := by omega
        have q3 : decide ((k : Int) < n) = true := decide_eq_true q1
        have q4 : decide ((k : Int) < 40) = false := decide_eq_false q2
        have q3n : decide (k < n) = true := decide_eq_true hk1
        have q4n : decide (k < 40) = false := decide_eq_false (by omega)
        clear hgo
        go_wp2_with fail
        refine (TSize_any _ ga _ _ _ HTa.out).mono ?_
        rintro e w7 ⟨rfl, rfl⟩
        rw [hlk]
        go_wp2_with (go_at_call 25; refine (Num9_any _ _).mono ?_; rintro e w8 ⟨rfl, rfl⟩)
        go_ret
        exact ⟨rfl, PP.out⟩
      · have q1 : ¬ ((k : Int) < n) := by omega
        have q3 : decide ((k : Int) < n) = false := decide_eq_false q1
        have q3n : decide (k < n) = false := decide_eq_false hk1
        clear hgo
        go_wp2_with fail
        refine (TSize_any _ ga _ _ _ HTa.out).mono ?_
        rintro e w7 ⟨rfl, rfl⟩
        rw [hlk]
        go_wp2_with (go_at_call 25; refine (Num9_any _ _).mono ?_; rintro e w8 ⟨rfl, rfl⟩)
        go_ret
        exact ⟨rfl, PP.out⟩
end Go.Proofs.Ytjbigghjbcjelaa
