/- The law MerkleParts: the root of a power of two and as many more at most is that of both parts' roots. -/
import Derived.Test.YtjbigghjbcjelaaTexts
namespace Go.Proofs.Ytjbigghjbcjelaa
open Go.RowKit

set_option maxRecDepth 100000 in
set_option maxHeartbeats 2000000 in
theorem MerkleParts_true (w : World) (v u : Value) (l m : List (List UInt8)) (h : Texts w v l) (k : Texts w u m) (hf : Fits l) (kf : Fits m) (hl : l.length ≤ 8796093021952) (hm : m.length ≤ 8796093021952) :
    Calls Try.prog 4 #[v, u] w fun e w' => e = .returned (.bool true) ∧ Pure w w' := by
  obtain ⟨X, hXl, HZ⟩ := ex28
  obtain ⟨iS, HIS, hSz, hSs, hSb⟩ := partsStr
  have hIS := HIS.out
  have HL := Lib.hid h; have HM := Lib.hid k
  obtain ⟨ao, c, rfl, hlc, ha⟩ := h
  obtain ⟨bo, d, rfl, hmd, hb⟩ := k
  have HA := Lib.hid ha; have HB := Lib.hid hb; clear ha hb
  obtain ⟨n, hn⟩ : ∃ n, n = l.length := ⟨_, rfl⟩
  obtain ⟨p, hp⟩ : ∃ p, p = m.length := ⟨_, rfl⟩
  rw [← hn] at hlc hl ⊢
  rw [← hp] at hmd hm ⊢
  have HN := Lib.hid (And.intro hn hp); clear hn hp
  go_enter Try.func4, Try.ntmps4
  go_wp2_with fail
  refine (awake9 _).mono ?_
  rintro e w1 ⟨rfl, t1⟩
  have P1 := Lib.hid t1; clear t1
  go_wp2
  go_loopw [5] (fun i wr => ∃ k j : Nat, k = 2 ^ j ∧ (k ≤ n ∨ k = 1) ∧ i = .int .i64 (k : Int) ∧ wr = w1) (fun i _ => n + 1 - (intOf i).toNat)
  case atStart => exact ⟨1, 0, rfl, .inr rfl, rfl, rfl⟩
  case round =>
    obtain ⟨k, j, hkj, hk, rfl, rfl⟩ := hrel
    have hk0 : 0 < k := by rw [hkj]; exact Nat.two_pow_pos _
    obtain ⟨k2, hk2⟩ : ∃ k2, k2 = 2 * k := ⟨_, rfl⟩
    have i1 : IntKind.i64.wrap (2 * (k : Int)) = (k2 : Int) := by rw [IntWalk.i64_in _ (by omega)]; omega
    have HK := Lib.hid (And.intro hkj (And.intro hk (And.intro hk0 hk2)))
    by_cases hlt : k2 ≤ n
    · have q1 : (k2 : Int) ≤ n := by omega
      clear hkj hk hk0 hk2
      go_wp2
      exact ⟨⟨k2, j + 1, by rw [HK.out.2.2.2, HK.out.1, Nat.pow_succ, Nat.mul_comm], by omega, by first | rfl | trivial, by first | rfl | trivial⟩, by have := HK.out; simp [intOf]; omega⟩
    · have q1 : ¬ ((k2 : Int) ≤ n) := by omega
      clear hkj hk hk0 hk2
      by_cases hn0 : n = 0
      · subst hn0
        go_wp2
        go_ret
        exact ⟨rfl, P1.out⟩
      · by_cases hp0 : p = 0
        · subst hp0
          have q2 : ((n : Int) == 0) = false := by simp; omega
          have q3 : (n == 0) = false := by simp; omega
          go_wp2
          go_ret
          exact ⟨rfl, P1.out⟩
        · have q2 : ((n : Int) == 0) = false := by simp; omega
          have q3 : (n == 0) = false := by simp; omega
          have q4 : ((p : Int) == 0) = false := by simp; omega
          have q5 : (p == 0) = false := by simp; omega
          have hkn : k ≤ n := by have := HK.out; omega
          obtain ⟨mn, hmn⟩ : ∃ mn, mn = min p k := ⟨_, rfl⟩
          have i2 : min (p : Int) (k : Int) = (mn : Int) := by omega
          have q6 : (0 : Int) ≤ k := by omega
          have q7 : (k : Int) ≤ c := by omega
          have q8 : (0 : Int) ≤ mn := by omega
          have q9 : (mn : Int) ≤ d := by omega
          have qc : ¬ c = 0 := by omega
          have qd : ¬ d = 0 := by omega
          go_wp2_with fail
          go_quiet (fail)
          rw [show min p k = mn from hmn.symm]
          have hlA : (l.take k).length = k := by rw [List.length_take]; have := HN.out; omega
          have hlB : (m.take mn).length = mn := by rw [List.length_take]; have := HN.out; omega
          have hmn1 : 1 ≤ mn := by have := HK.out; omega
          have hmn2 : mn ≤ k := by omega
          have HTA : Hid (Texts w (.slice ao k c) (l.take k)) := Lib.hid ⟨ao, c, by rw [hlA], by omega, fun _ => by
            obtain ⟨b, o, e, hr⟩ := HA.out (fun e => by have := HN.out; rw [e] at this; simp at this; omega)
            exact ⟨b, o, e, strs_take hr k⟩⟩
          have HTB : Hid (Texts w (.slice bo mn d) (m.take mn)) := Lib.hid ⟨bo, d, by rw [hlB], by omega, fun _ => by
            obtain ⟨b, o, e, hr⟩ := HB.out (fun e => by have := HN.out; rw [e] at this; simp at this; omega)
            exact ⟨b, o, e, strs_take hr mn⟩⟩
          have hfA : Fits (l.take k) := fun x hx => hf x (List.mem_of_mem_take hx)
          have hfB : Fits (m.take mn) := fun x hx => kf x (List.mem_of_mem_take hx)
          have hrp : rootV (l.take k ++ m.take mn) = joinV (rootV (l.take k)) (rootV (m.take mn)) := rootV_parts _ _ j (by rw [hlA]; exact HK.out.1) (by omega) (by have := HK.out; omega)
          have HRP := Lib.hid hrp; clear hrp
          generalize l.take k = A at *
          generalize m.take mn = B at *
          have P2 := Lib.hid (P1.out.drewN nq)
          generalize wr.drewN nq = w2 at *
          have hj42 : j ≤ 42 := by
            refine Nat.le_of_lt_succ (Nat.lt_of_not_le fun h => ?_)
            have h2 : 2 ^ 43 ≤ 2 ^ j := Nat.pow_le_pow_right (by decide) h
            have h3 := HK.out.1
            have h4 : (2 : Nat) ^ 43 = 8796093022208 := by decide
            omega
          have hkb : k ≤ 4398046511104 := by
            have h2 : 2 ^ j ≤ 2 ^ 42 := Nat.pow_le_pow_right (by decide) hj42
            have h3 := HK.out.1
            have h4 : (2 : Nat) ^ 42 = 4398046511104 := by decide
            omega
          have HX := Lib.hid (And.intro hlA (And.intro hlB (And.intro hmn hkn))); clear hmn hkn i1 i2 hlc hmd
          clear hn0 hp0 hl hm
          have hown0 : (w2.alloc (.cells #[] 9)).ownsRow 0 9 1 (.slice (some ⟨w2.heap.size, 0, none⟩) 0 0) 0 [] := ⟨rfl, .inr ⟨w2.heap.size, 0, #[], rfl, Nat.zero_le _, heap_alloc_new w2 _, Nat.le_refl _, by decide, rfl, rfl⟩⟩
          have HO0 := Lib.hid hown0
          have HSA := Lib.hid ((HTA.out.pure (P2.out.alloc (.cells #[] 9))).src)
          rw [hlA] at HSA
          clear hown0
          have hsz2 := P2.out.size
          go_wp2_with (at_builtin; refine wpList_append_turn _ rfl _ _ 22 22 9 rfl iS _ 1 16 Try.underlying22 hIS hSz hSs hSb rfl (.slice (some ⟨w2.heap.size, 0, none⟩) 0 0) _ _ rfl HO0.out _ rfl k _ HSA.out (by omega) (by omega) ?_)
          intro ao3 c3 w3 hown3 ht3 hb3
          have P3 : Pure w w3 := (P2.out.alloc (.cells #[] 9)).trans ht3 fun i hi e => by have e2 : w2.heap.size = i := Option.some.inj e; omega
          have hlow3 : ∀ q, (Value.slice ao3 k c3).ownBlock = some q → w.heap.size ≤ q := by
            intro q hq
            rcases hb3.out with e | e
            · rw [e] at hq; have e2 : w2.heap.size = q := Option.some.inj hq; omega
            · rw [e] at hq; have e2 := Option.some.inj hq; omega
          have HO3 := Lib.hid hown3
          have HSB := Lib.hid ((HTB.out.pure P3).src)
          rw [hlB] at HSB
          have HP3 := Lib.hid P3; have HLOW := Lib.hid hlow3
          clear hown3 ht3 hb3 P3 hlow3 HO0 HSA
          go_wp2_with (at_builtin; refine wpList_append_turn _ rfl _ _ 22 22 9 rfl iS _ 1 16 Try.underlying22 hIS hSz hSs hSb rfl (.slice ao3 k c3) _ _ rfl HO3.out _ rfl mn _ HSB.out (by omega) (by omega) ?_)
          intro ao4 c4 w4 hown4 ht4 hb4
          have hst : strs A ++ strs B = strs (A ++ B) := by simp [strs]
          rw [hst] at hown4
          have P4 := Lib.hid (HP3.out.trans ht4 fun i hi e => by have := HLOW.out i e; omega : Pure w w4)
          have HTC := Lib.hid (Texts.own hown4)
          have hlow4 : ∀ q, (Value.slice ao4 (k + mn) c4).ownBlock = some q → w.heap.size ≤ q := by
            intro q hq
            rcases hb4.out with e | e
            · rw [e] at hq; exact HLOW.out q hq
            · rw [e] at hq; have e2 := Option.some.inj hq; have := HP3.out.size; omega
          have HLT := Lib.hid (fun q (hq : (Value.slice ao4 (k + mn) c4).ownBlock = some q) => (hown4.lt q hq).2)
          clear hown4 ht4 hb4 hst HO3 HSB HP3 HLOW hlow4
          go_wp2_with fail
          refine (Root_texts w4 _ A (HTA.out.pure P4.out) hfA (by omega)).mono ?_
          rintro e w5 ⟨rfl, t5⟩
          have P5 := Lib.hid (P4.out.pure t5)
          have HTC5 := Lib.hid (HTC.out.pure t5)
          have z5 := t5.size
          clear t5 P4 HTC
          go_wp2_with fail
          refine (Root_texts w5 _ B (HTB.out.pure P5.out) hfB (by omega)).mono ?_
          rintro e w6 ⟨rfl, t6⟩
          have P6 := Lib.hid (P5.out.pure t6)
          have HTC6 := Lib.hid (HTC5.out.pure t6)
          have z6 := t6.size
          clear t6 P5 HTC5
          have hU : (rootV A).length = 32 := rootV_length _
          have hV : (rootV B).length = 32 := rootV_length _
          have hall : (A ++ B).length = k + mn := by rw [List.length_append, hlA, hlB]
          have hfC : Fits (A ++ B) := fun x hx => (List.mem_append.1 hx).elim (hfA x) (hfB x)
          have HRC := Lib.hid (fun (W : World) (hW : Texts W (.slice ao4 (k + mn) c4) (A ++ B)) => Root_texts W _ (A ++ B) hW hfC (by omega))
          rw [HRP.out] at HRC
          generalize rootV A = U at *
          generalize rootV B = V at *
          clear hall hfC
          go_wp2_with (refine wpList_allocZ rfl 28 rfl X HZ.out ?_)
          intro g1 w7 e7 d7 t7 s7
          have l7 : w.heap.size ≤ g1 := by have := P6.out.size; omega
          have l7b : w4.heap.size ≤ g1 := by omega
          have P7 := Lib.hid (P6.out.pure t7)
          have HTC7 := Lib.hid (HTC6.out.pure t7)
          clear e7 t7 P6 HTC6
          go_wp2_with (refine wpList_allocZ rfl 28 rfl X HZ.out ?_)
          intro g2 w8 e8 d8 t8 s8
          have l8 : g1 < g2 := by omega
          have P8 := Lib.hid (P7.out.pure t8)
          have HTC8 := Lib.hid (HTC7.out.pure t8)
          have d7 := t8.obj d7 (fun e => e)
          clear e8 t8 P7 HTC7 s7
          go_wp2_with (refine wpList_store_blk rfl 28 _ _ rfl g1 _ (u8s U) _ rfl rfl d7 (size28 hXl hU) (info28_l hU) (u8s_one _) ?_)
          intro w9 d9 t9 s9
          have d8 := t9.obj d8 (by omega)
          have P9 := Lib.hid (P8.out.trans t9 fun i hi e => by omega : Pure w w9)
          have HTC9 := Lib.hid (HTC8.out.turn t9 (fun q hq e => by have := HLT.out q hq; omega))
          clear d7 t9 P8 HTC8 s9
          go_wp2_with (refine wpList_store_blk rfl 28 _ _ rfl g2 _ (u8s V) _ rfl rfl d8 (size28 hXl hV) (info28_l hV) (u8s_one _) ?_)
          intro wa da ta sa
          have d9 := Lib.hid (ta.obj d9 (by omega))
          have da := Lib.hid da
          have PA := Lib.hid (P9.out.trans ta fun i hi e => by omega : Pure w wa)
          have HTCa := Lib.hid (HTC9.out.turn ta (fun q hq e => by have := HLT.out q hq; omega))
          clear d8 ta P9 HTC9 sa s8
          have hu28 := Try.underlying28
          have hJ : (joinV U V).length = 32 := joinV_length _ _
          have sJ := fun W => same28 W hJ
          have hza := bstr_size U
          rw [hU] at hza
          have hzb := bstr_size V
          rw [hV] at hzb
          have ha1 := cons1 U
          have hza1 : (bstr (1 :: U)).size = 33 := by rw [bstr_size]; simp [hU]
          have ha2 : bstr (1 :: U) ++ bstr V = bstr (1 :: (U ++ V)) := bstr_app (1 :: U) V
          have hsl : (1 :: (U ++ V)).length ≤ 281474976710656 := by simp [hU, hV]
          go_wp2_with fail
          refine wp_region_held_drew (S := fun w' => w'.rangeAt g1 0 (u8s U) ∧ w'.rangeAt g2 0 (u8s V)) (by kernel_rfl) (show wa.drew.rangeAt g1 0 (u8s U) ∧ wa.drew.rangeAt g2 0 (u8s V) from ⟨range_of_row d9.out, range_of_row da.out⟩) (fun hHeld => ?_)
          have HS := Lib.hid hHeld
          have PP := Lib.hid PA.out.drew
          have HTCd := Lib.hid (HTCa.out.pure ((Turn.refl (fun _ => False) wa).drew))
          clear hHeld PA HTCa d9 da
          generalize wa.drew = wa at *
          refine wpAnyH_take (i := 0) (v := .slice ao4 (k + mn) c4) rfl (by kernel_rfl) (by kernel_rfl) (by kernel_rfl) (fun _ _ _ h => h) (Or.inl ⟨by rfl, fun w hSw => by go_simp⟩) HS.out ?_
          simp only [List.getElem_toArray, List.getElem_cons_zero, Act.put, List.setIfInBounds_toArray, List.set_cons_zero, List.set_cons_succ]
          refine wpAnyH_take (i := 2) (v := hv U) rfl (by kernel_rfl) (by kernel_rfl) (by kernel_rfl) (fun _ _ _ h => h) (yieldsIf_load_mid (by rfl) 28 _ rfl g1 0 rfl (u8s U) _ (fun w h => h.1) hu28 rfl (info28_l hU)) HS.out ?_
          simp only [List.getElem_toArray, List.getElem_cons_succ, List.getElem_cons_zero, Act.put, List.setIfInBounds_toArray, List.set_cons_zero, List.set_cons_succ]
          refine wpAnyH_take (i := 5) (v := hv V) rfl (by kernel_rfl) (by kernel_rfl) (by kernel_rfl) (fun _ _ _ h => h) (yieldsIf_load_mid (by rfl) 28 _ rfl g2 0 rfl (u8s V) _ (fun w h => h.2) hu28 rfl (info28_l hV)) HS.out ?_
          simp only [List.getElem_toArray, List.getElem_cons_succ, List.getElem_cons_zero, Act.put, List.setIfInBounds_toArray, List.set_cons_zero, List.set_cons_succ]
          refine wpAnyH_step (i := 1) (by kernel_rfl) rfl fun K hK => ?_
          go_simp
          refine (HRC.out _ HTCd.out).mono ?_
          rintro e wn ⟨rfl, tn⟩
          have HSn := Lib.hid (And.intro (tn.range HS.out.1 (fun e => e)) (tn.range HS.out.2 (fun e => e))); have PPn := Lib.hid (PP.out.pure tn)
          refine hK.out _ _ HSn.out ?_
          clear hK K tn HS PP
          have HS := Lib.hid HSn.out; have PP := Lib.hid PPn.out; clear HSn PPn
          try simp only [List.getElem_toArray, List.getElem_cons_succ, List.getElem_cons_zero, Act.put, List.setIfInBounds_toArray, List.set_cons_zero, List.set_cons_succ]
          refine wpAnyH_step (i := 3) (by kernel_rfl) rfl fun K hK => ?_
          go_simp
          refine (T_any _ U hU).mono ?_
          rintro e wn ⟨rfl, tn⟩
          have HSn := Lib.hid (And.intro (tn.range HS.out.1 (fun e => e)) (tn.range HS.out.2 (fun e => e))); have PPn := Lib.hid (PP.out.pure tn)
          refine hK.out _ _ HSn.out ?_
          clear hK K tn HS PP
          have HS := Lib.hid HSn.out; have PP := Lib.hid PPn.out; clear HSn PPn
          try simp only [List.getElem_toArray, List.getElem_cons_succ, List.getElem_cons_zero, Act.put, List.setIfInBounds_toArray, List.set_cons_zero, List.set_cons_succ]
          refine wpAnyH_take (i := 4) (v := .string (bstr (1 :: U))) rfl (by kernel_rfl) (by kernel_rfl) (by kernel_rfl) (fun _ _ _ h => h) (Or.inl ⟨by rfl, fun w hSw => by go_simp⟩) HS.out ?_
          simp only [List.getElem_toArray, List.getElem_cons_succ, List.getElem_cons_zero, Act.put, List.setIfInBounds_toArray, List.set_cons_zero, List.set_cons_succ]
          refine wpAnyH_step (i := 6) (by kernel_rfl) rfl fun K hK => ?_
          go_simp
          refine (T_any _ V hV).mono ?_
          rintro e wn ⟨rfl, tn⟩
          have HSn := Lib.hid (And.intro (tn.range HS.out.1 (fun e => e)) (tn.range HS.out.2 (fun e => e))); have PPn := Lib.hid (PP.out.pure tn)
          refine hK.out _ _ HSn.out ?_
          clear hK K tn HS PP
          have HS := Lib.hid HSn.out; have PP := Lib.hid PPn.out; clear HSn PPn
          try simp only [List.getElem_toArray, List.getElem_cons_succ, List.getElem_cons_zero, Act.put, List.setIfInBounds_toArray, List.set_cons_zero, List.set_cons_succ]
          refine wpAnyH_take (i := 7) (v := .string (bstr (1 :: (U ++ V)))) rfl (by kernel_rfl) (by kernel_rfl) (by kernel_rfl) (fun _ _ _ h => h) (Or.inl ⟨by rfl, fun w hSw => by go_simp⟩) HS.out ?_
          simp only [List.getElem_toArray, List.getElem_cons_succ, List.getElem_cons_zero, Act.put, List.setIfInBounds_toArray, List.set_cons_zero, List.set_cons_succ]
          refine wpAnyH_step (i := 8) (by kernel_rfl) rfl fun K hK => ?_
          go_simp
          refine (Sha_any _ _ hsl).mono ?_
          rintro e wn ⟨rfl, tn⟩
          rw [show shaV (1 :: (U ++ V)) = joinV U V from rfl]
          have HSn := Lib.hid (And.intro (tn.range HS.out.1 (fun e => e)) (tn.range HS.out.2 (fun e => e))); have PPn := Lib.hid (PP.out.pure tn)
          refine hK.out _ _ HSn.out ?_
          clear hK K tn HS PP
          have HS := Lib.hid HSn.out; have PP := Lib.hid PPn.out; clear HSn PPn
          try simp only [List.getElem_toArray, List.getElem_cons_succ, List.getElem_cons_zero, Act.put, List.setIfInBounds_toArray, List.set_cons_zero, List.set_cons_succ]
          refine wpAnyH_take (i := 9) (v := .bool true) rfl (by kernel_rfl) (by kernel_rfl) (by kernel_rfl) (fun _ _ _ h => h) (Or.inl ⟨by rfl, fun w hSw => by go_simp⟩) HS.out ?_
          simp only [List.getElem_toArray, List.getElem_cons_succ, List.getElem_cons_zero, Act.put, List.setIfInBounds_toArray, List.set_cons_zero, List.set_cons_succ]
          refine wpAnyH_take (i := 10) (v := .bool true) rfl (by kernel_rfl) (by kernel_rfl) (by kernel_rfl) (fun _ _ _ h => h) (Or.inl ⟨by rfl, fun w hSw => by go_simp⟩) HS.out ?_
          simp only [List.getElem_toArray, List.getElem_cons_succ, List.getElem_cons_zero, Act.put, List.setIfInBounds_toArray, List.set_cons_zero, List.set_cons_succ]
          refine wpAnyH_done (by kernel_rfl) ?_ _
          go_wp2
          go_ret
          exact ⟨rfl, PP.out⟩
end Go.Proofs.Ytjbigghjbcjelaa
