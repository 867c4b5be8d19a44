/- The law MerkleTall: of twice as many like leaves the root is that of both like halves. -/
import Derived.Test.YtjbigghjbcjelaaAwake9
namespace Go.Proofs.Ytjbigghjbcjelaa
open Go.RowKit

theorem and7 (x : Int) : ∃ H : Nat, H ≤ 7 ∧ bits .and .i64 x 7 = (H : Int) := by
  refine ⟨(BitVec.ofInt 64 x &&& BitVec.ofInt 64 7).toNat, ?_, ?_⟩
  · rw [BitVec.toNat_and]
    exact Nat.le_trans Nat.and_le_right (by decide)
  · have h : (BitVec.ofInt 64 x &&& BitVec.ofInt 64 7).toNat ≤ 7 := by
      rw [BitVec.toNat_and]
      exact Nat.le_trans Nat.and_le_right (by decide)
    show IntKind.i64.wrap (((BitVec.ofInt 64 x &&& BitVec.ofInt 64 7).toNat : Nat) : Int) = _
    exact IntWalk.i64_in _ (by omega)
theorem infoStr : (Try.prog.info? 9).map (fun i => (i.zero, i.size, i.bytes)) = some (some (.string ⟨#[]⟩), 1, 16) := by kernel_rfl
theorem partsStr : ∃ i, Hid (Try.prog.info? 9 = some i) ∧ i.zero = some (.string ⟨#[]⟩) ∧ i.size = 1 ∧ i.bytes = 16 := by
  have h := infoStr
  cases hi : Try.prog.info? 9 with
  | none => rw [hi] at h; simp at h
  | some i =>
    rw [hi] at h
    simp only [Option.map_some, Option.some.injEq, Prod.mk.injEq] at h
    exact ⟨i, Lib.hid rfl, h.1, h.2.1, h.2.2⟩
theorem strs_one (ls : List (List UInt8)) : ∀ u ∈ strs ls, u.oneCell' = true := by
  intro u hu
  obtain ⟨b, _, rfl⟩ := List.mem_map.1 hu
  rfl
/-- A region, and what follows it once. -/
theorem wp_region_cut {P : Program} {id : Nat} {ops : Array Oper} {d : Bool} {Q : Exit → Act → World → Prop} {a : Act} {w : World} {R : World → Prop}
    (h : ∃ act, (Code.region id ops d).wp P (fun e a' w' => e = .normal ∧ a' = act ∧ R w') a w ∧ ∀ w', R w' → Q .normal act w') : (Code.region id ops d).wp P Q a w := by
  obtain ⟨act, h1, h2⟩ := h
  refine Code.wp_mono (fun e a' w' hh => ?_) h1
  obtain ⟨rfl, rfl, hr⟩ := hh
  exact h2 w' hr
/-- The root of twice as many like leaves. -/
theorem rootV_twice (t : List UInt8) (k : Nat) : rootV (List.replicate (2 ^ (k + 1)) t) = joinV (rootV (List.replicate (2 ^ k) t)) (rootV (List.replicate (2 ^ k) t)) := by
  have hp : 0 < 2 ^ k := Nat.two_pow_pos k
  have hs : 2 ^ (k + 1) = 2 * 2 ^ k := by rw [Nat.pow_succ]; omega
  have hb : belowV (2 ^ (k + 1)) = 2 ^ k := (belowV_unique (n := 2 ^ (k + 1)) (j := k) (by omega) (by omega)).symm
  rw [rootV_more (by rw [List.length_replicate]; omega), List.length_replicate, hb, List.take_replicate, List.drop_replicate, Nat.min_eq_left (by omega), show 2 ^ (k + 1) - 2 ^ k = 2 ^ k from by omega]

set_option maxRecDepth 100000 in
set_option maxHeartbeats 2000000 in
theorem MerkleTall_true (w : World) (leaf : List UInt8) (high : Int) (hl : leaf.length ≤ 140737488351232) :
    Calls Try.prog 6 #[.string (bstr leaf), .int .i64 high] w fun e w' => e = .returned (.bool true) ∧ Pure w w' := by
  obtain ⟨X, hXl, HZ⟩ := ex28
  obtain ⟨H, hH7, hHb⟩ := and7 high
  obtain ⟨iS, HIS, hSz, hSs, hSb⟩ := partsStr
  have hIS := HIS.out
  obtain ⟨n0, hn0⟩ : ∃ n0, n0 = min leaf.length 60 := ⟨_, rfl⟩
  have hz := bstr_size leaf
  have q1 : (0 : Int) ≤ n0 := by omega
  have q2 : (n0 : Int) ≤ leaf.length := by omega
  have hmin : min (leaf.length : Int) 60 = (n0 : Int) := by omega
  obtain ⟨t, ht⟩ : ∃ t, t = leaf.take n0 := ⟨_, rfl⟩
  have htl : t.length ≤ 60 := by rw [ht, List.length_take]; omega
  have hex : (bstr leaf).extract 0 n0 = bstr t := by rw [bstr_ext, ht]; simp
  have hc0 := cons0 t
  have hzt := bstr_size t
  have HT0 := Lib.hid (And.intro hn0 ht); clear hn0 ht
  have hsl0 : (0 :: t).length ≤ 281474976710656 := by simp; omega
  have hb1 : ¬ (9223372036854775807 < 1 + t.length) := by omega
  have hb2 : ¬ (9223372036854775807 < t.length + 1) := by omega
  have hW0 : (leafV t).length = 32 := leafV_length t
  have hu28 := Try.underlying28
  go_enter Try.func6, Try.ntmps6
  go_wp2_with fail
  refine (awake9 _).mono ?_
  rintro e w1 ⟨rfl, t1⟩
  have P1 := Lib.hid t1; clear t1
  go_wp2_with fail
  refine (Sha_any _ (0 :: t) hsl0).mono ?_
  rintro e w2 ⟨rfl, t2⟩
  rw [show shaV (0 :: t) = leafV t from rfl]
  have P2 := Lib.hid (P1.out.pure t2); clear t2 P1
  go_wp2_with (refine wpList_allocZ rfl 28 rfl X HZ.out ?_)
  intro g6 w3 e3 c3 t3 s3
  have l3 : w.heap.size ≤ g6 := by have := P2.out.size; omega
  have P3 := Lib.hid (P2.out.pure t3)
  clear e3 t3 P2
  go_wp2_with (refine wpList_store_blk rfl 28 _ _ rfl g6 _ (u8s (leafV t)) _ rfl rfl c3 (size28 hXl hW0) (info28_l hW0) (u8s_one _) ?_)
  intro w4 c4 t4 s4
  have P4 := Lib.hid (P3.out.trans t4 fun i hi e => by omega : Pure w w4)
  have C4 := Lib.hid c4
  have s4 : w4.heap.size = g6 + 1 := by omega
  clear c3 c4 t4 P3 s3
  go_upto_region 6 with fail
  have hal : (w4.alloc (.cells #[Value.string (bstr t)] 9)).heap[g6 + 1]? = some (.cells #[Value.string (bstr t)] 9 (0, 0)) := by
    have := heap_alloc_new w4 (.cells #[Value.string (bstr t)] 9)
    rwa [s4] at this
  have hown : (w4.alloc (.cells #[Value.string (bstr t)] 9)).ownsRow 0 9 1 (.slice (some ⟨g6 + 1, 0, none⟩) 1 1) 1 (strs (List.replicate 1 t)) :=
    ⟨rfl, .inr ⟨g6 + 1, 1, _, rfl, Nat.zero_le _, hal, Nat.le_refl _, by decide, rfl, rfl⟩⟩
  have P5 := Lib.hid (P4.out.alloc (.cells #[Value.string (bstr t)] 9))
  have C5 := Lib.hid (((Turn.refl (fun _ => False) w4).alloc (.cells #[Value.string (bstr t)] 9)).obj C4.out (fun e => e))
  have HOWN := Lib.hid hown
  generalize w4.alloc (.cells #[Value.string (bstr t)] 9) = w5 at *
  clear hal hown P4 C4 s4
  go_wp2
  go_loopw [4, 7, 8] (fun _ v i wr => ∃ (k n c b : Nat), k ≤ H ∧ n = 2 ^ k ∧ i = .int .i64 (k : Int) ∧ v = .slice (some ⟨b, 0, none⟩) n c ∧ Hid (wr.ownsRow 0 9 1 (.slice (some ⟨b, 0, none⟩) n c) n (strs (List.replicate n t))) ∧ w.heap.size ≤ b ∧ b ≠ g6 ∧ Hid (wr.heap[g6]? = some (.cells (u8s (rootV (List.replicate n t))).toArray 28 (0, 0))) ∧ Hid (Pure w wr)) (fun _ _ i _ => H - (intOf i).toNat)
  case atStart => exact ⟨0, 1, 1, g6 + 1, by omega, rfl, rfl, rfl, HOWN, by omega, by omega, by rw [show rootV (List.replicate 1 t) = leafV t from rootV_one t]; exact C5, P5⟩
  case round =>
    obtain ⟨k, n, c, b, hk, hnk, rfl, rfl, HO, hwb, hbg, HC, HP⟩ := hrel
    have hn1 : 1 ≤ n := by rw [hnk]; exact Nat.two_pow_pos k
    have hn2 : n ≤ 128 := by rw [hnk]; exact Nat.pow_le_pow_right (by decide) (by omega : k ≤ 7)
    have hnc : n ≤ c := by
      rcases HO.out.2 with ⟨_, h2⟩ | ⟨g9, cap, cur, h1, _, _, h5, _⟩
      · omega
      · simp only [Value.slice.injEq] at h1; obtain ⟨_, _, rfl⟩ := h1; exact h5
    obtain ⟨W, hWd⟩ : ∃ W, W = rootV (List.replicate n t) := ⟨_, rfl⟩
    have hW : W.length = 32 := by rw [hWd]; exact rootV_length _
    have hrg : wr.rangeAt b 0 (strs (List.replicate n t)) := by
      intro j u hj
      have := HO.out.cells (g := b) rfl j u hj
      rwa [Addr.add_mid] at this
    have hfits : Fits (List.replicate n t) := fun l hl => by rw [(List.mem_replicate.1 hl).2]; omega
    have hroot := fun (V : World) (hV : V.rangeAt b 0 (strs (List.replicate n t))) => Root_at n (List.replicate n t) (by simp) V b 0 c hnc (by omega) hfits hV
    rw [← hWd] at HC hroot
    have HROOT := Lib.hid hroot; clear hroot
    have HRG := Lib.hid hrg; clear hrg
    have HWD := Lib.hid (And.intro hWd hnk); clear hWd hnk hfits
    have sW := fun V => same28 V hW
    have nW : ∀ V : World, (binOp .neq 28 (hv W) (hv W)).run Try.prog V = .ok (.bool false) V := fun V => by rw [neq28 V hW hW, beq_self_eq_true]; rfl
    by_cases hlk : k < H
    · have q3 : (k : Int) < H := by omega
      have q4 : decide ((k : Int) < H) = true := decide_eq_true q3
      go_wp2_with fail
      refine wp_region_held_drew (S := fun w' => w'.rangeAt g6 0 (u8s W)) (by kernel_rfl) (show wr.drew.rangeAt g6 0 (u8s W) from range_of_row HC.out) (fun hHeld => ?_)
      refine wpAnyH_take (i := 0) (v := .slice (some ⟨b, 0, none⟩) n c) rfl (by kernel_rfl) (by kernel_rfl) (by kernel_rfl) (fun _ _ _ h => h) (Or.inl ⟨by rfl, fun w hSw => by go_simp⟩) hHeld ?_
      simp only [List.getElem_toArray, List.getElem_cons_zero, Act.put, List.setIfInBounds_toArray, List.set_cons_zero, List.set_cons_succ]
      refine wpAnyH_take (i := 2) (v := hv W) rfl (by kernel_rfl) (by kernel_rfl) (by kernel_rfl) (fun _ _ _ h => h) (yieldsIf_load_mid (by rfl) 28 _ rfl g6 0 rfl (u8s W) _ (fun w h => h) hu28 rfl (info28_l hW)) hHeld ?_
      simp only [List.getElem_toArray, List.getElem_cons_succ, List.getElem_cons_zero, Act.put, List.setIfInBounds_toArray, List.set_cons_zero, List.set_cons_succ]
      have CC := Lib.hid (show wr.drew.heap[g6]? = _ from HC.out)
      have PP := Lib.hid HP.out.drew
      have HO1 := Lib.hid (show wr.drew.ownsRow 0 9 1 (.slice (some ⟨b, 0, none⟩) n c) n (strs (List.replicate n t)) from HO.out)
      have HRG1 := Lib.hid (show wr.drew.rangeAt b 0 (strs (List.replicate n t)) from HRG.out)
      have HS := Lib.hid hHeld
      clear hHeld HC HP HO HRG
      generalize wr.drew = wr at *
      refine wpAnyH_step (i := 1) (by kernel_rfl) rfl fun K hK => ?_
      go_simp
      refine (HROOT.out _ HRG1.out).mono ?_
      rintro e w9 ⟨rfl, t9⟩
      have CC9 := Lib.hid (t9.obj CC.out (fun e => e))
      have PP9 := Lib.hid (PP.out.pure t9)
      have HO9 := Lib.hid (t9.own HO1.out (fun _ _ e => e))
      have HS9 := Lib.hid (t9.range HS.out (fun e => e))
      refine hK.out _ _ HS9.out ?_
      clear hK K t9 CC PP HO1 HS HRG1
      refine wpAnyH_take (i := 3) (v := .bool false) rfl (by kernel_rfl) (by kernel_rfl) (by kernel_rfl) (fun _ _ _ h => h) (Or.inl ⟨by rfl, fun w hSw => by go_simp⟩) HS9.out ?_
      simp only [List.getElem_toArray, List.getElem_cons_succ, List.getElem_cons_zero, Act.put, List.setIfInBounds_toArray, List.set_cons_zero, List.set_cons_succ]
      refine wpAnyH_done (by kernel_rfl) ?_ _
      have hsrc := own_src Try.underlying22 HO9.out (strs_one _)
      have HSRC := Lib.hid hsrc; clear hsrc
      go_wp2_with (at_builtin; refine wpList_append_turn _ rfl _ _ 22 22 9 rfl iS _ 1 16 Try.underlying22 hIS hSz hSs hSb rfl (.slice (some ⟨b, 0, none⟩) n c) _ _ rfl HO9.out _ rfl n _ HSRC.out ?_ ?_ ?_)
      all_goals first | omega | skip
      intro ao2 c2 wa hown2 ht2 hb2
      obtain ⟨b2, rfl⟩ : ∃ b2, ao2 = some ⟨b2, 0, none⟩ := by
        rcases hown2.2 with ⟨_, h2⟩ | ⟨g9, cap, cur, h1, _⟩
        · omega
        · simp only [Value.slice.injEq] at h1; exact ⟨g9, h1.1⟩
      have hb9 : w.heap.size ≤ b2 ∧ b2 ≠ g6 := by
        have h6 := (Array.getElem?_eq_some_iff.1 CC9.out).1
        have hs9 := PP9.out.size
        rcases hb2.out with e | e
        · simp only [Value.ownBlock, Option.some.injEq] at e; omega
        · simp only [Value.ownBlock, Option.some.injEq] at e; omega
      have hst : strs (List.replicate n t) ++ strs (List.replicate n t) = strs (List.replicate (n + n) t) := by
        simp only [strs, List.map_replicate, List.replicate_append_replicate]
      rw [hst] at hown2
      have HOa := Lib.hid hown2
      have CCa := Lib.hid (ht2.obj CC9.out (fun e => hbg (Option.some.inj e)))
      have PPa := Lib.hid (PP9.out.trans ht2 fun i hi e => by have e2 : b = i := Option.some.inj e; omega : Pure w wa)
      clear hown2 ht2 hb2 CC9 PP9 HO9 HS9 HSRC hst
      have hza := bstr_size W
      rw [hW] at hza
      have ha1 := cons1 W
      have hza1 : (bstr (1 :: W)).size = 33 := by rw [bstr_size]; simp [hW]
      have ha2 : bstr (1 :: W) ++ bstr W = bstr (1 :: (W ++ W)) := bstr_app (1 :: W) W
      have hsl : (1 :: (W ++ W)).length ≤ 281474976710656 := by simp [hW]
      go_upto_region 12 with fail
      refine wp_region_cut (R := fun wx => wx.heap[g6]? = some (.cells (u8s (joinV W W)).toArray 28 (0, 0)) ∧ Turn (fun b => b = g6) wa wx) ?_
      apply Exists.intro
      refine ⟨?first, ?rest⟩
      case first =>
        refine wp_region_held_drew (S := fun _ => True) (by kernel_rfl) trivial (fun _ => ?_)
        have CC := Lib.hid (show wa.drew.heap[g6]? = _ from CCa.out)
        have TT := Lib.hid (show Turn (fun b => b = g6) wa wa.drew from (Turn.refl _ wa).drew)
        generalize wa.drew = wz at *
        refine wpAnyH_ready (rs := [0, 3]) (by kernel_rfl) (by simp) (AllReadyH.cons rfl (fun K hK => ?_) (AllReadyH.cons rfl (fun K hK => ?_) AllReadyH.nil))
        · rw [if_pos (by rfl)]
          refine wp_load_mid 28 _ rfl g6 0 rfl (u8s W) _ (range_of_row CC.out) hu28 rfl (info28_l hW) ?_
          refine hK.out _ _ trivial (fun _ => ?_)
          clear hK K
          try simp only [List.getElem_toArray, List.getElem_cons_zero, Act.put, List.setIfInBounds_toArray, List.set_cons_zero, List.set_cons_succ]
          refine wpAnyH_ready (rs := [1, 3]) (by kernel_rfl) (by simp) (AllReadyH.cons rfl (fun K hK => ?_) (AllReadyH.cons rfl (fun K hK => ?_) AllReadyH.nil))
          · go_simp
            refine (T_any _ W hW).mono ?_
            rintro e w9 ⟨rfl, t9⟩
            have CC9 := Lib.hid (t9.obj CC.out (fun e => e))
            have TT9 := Lib.hid (TT.out.pure t9)
            refine hK.out _ _ trivial (fun _ => ?_)
            clear hK K t9 CC TT
            have CC := Lib.hid CC9.out; have TT := Lib.hid TT9.out; clear CC9 TT9
            try simp only [List.getElem_toArray, List.getElem_cons_succ, List.getElem_cons_zero, Act.put, List.setIfInBounds_toArray, List.set_cons_zero, List.set_cons_succ]
            refine wpAnyH_take (i := 2) (v := .string (bstr (1 :: W))) rfl (by kernel_rfl) (by kernel_rfl) (by kernel_rfl) (fun _ _ _ h => nomatch h.1) (Or.inl ⟨by rfl, fun w hSw => by go_simp⟩) trivial ?_
            simp only [List.getElem_toArray, List.getElem_cons_succ, List.getElem_cons_zero, Act.put, List.setIfInBounds_toArray, List.set_cons_zero, List.set_cons_succ]
            refine wpAnyH_step (i := 3) (by kernel_rfl) rfl fun K hK => ?_
            rw [if_pos (by rfl)]
            refine wp_load_mid 28 _ rfl g6 0 rfl (u8s W) _ (range_of_row CC.out) hu28 rfl (info28_l hW) ?_
            refine hK.out _ _ trivial ?_
            clear hK K
            try simp only [List.getElem_toArray, List.getElem_cons_succ, List.getElem_cons_zero, Act.put, List.setIfInBounds_toArray, List.set_cons_zero, List.set_cons_succ]
            refine wpAnyH_step (i := 4) (by kernel_rfl) rfl fun K hK => ?_
            go_simp
            refine (T_any _ W hW).mono ?_
            rintro e w9 ⟨rfl, t9⟩
            have CC9 := Lib.hid (t9.obj CC.out (fun e => e))
            have TT9 := Lib.hid (TT.out.pure t9)
            refine hK.out _ _ trivial ?_
            clear hK K t9 CC TT
            have CC := Lib.hid CC9.out; have TT := Lib.hid TT9.out; clear CC9 TT9
            try simp only [List.getElem_toArray, List.getElem_cons_succ, List.getElem_cons_zero, Act.put, List.setIfInBounds_toArray, List.set_cons_zero, List.set_cons_succ]
            refine wpAnyH_take (i := 5) (v := .string (bstr (1 :: (W ++ W)))) rfl (by kernel_rfl) (by kernel_rfl) (by kernel_rfl) (fun _ _ _ h => nomatch h.1) (Or.inl ⟨by rfl, fun w hSw => by go_simp⟩) trivial ?_
            simp only [List.getElem_toArray, List.getElem_cons_succ, List.getElem_cons_zero, Act.put, List.setIfInBounds_toArray, List.set_cons_zero, List.set_cons_succ]
            refine wpAnyH_step (i := 6) (by kernel_rfl) rfl fun K hK => ?_
            go_simp
            refine (Sha_any _ (1 :: (W ++ W)) hsl).mono ?_
            rintro e w9 ⟨rfl, t9⟩
            have CC9 := Lib.hid (t9.obj CC.out (fun e => e))
            have TT9 := Lib.hid (TT.out.pure t9)
            refine hK.out _ _ trivial ?_
            clear hK K t9 CC TT
            have CC := Lib.hid CC9.out; have TT := Lib.hid TT9.out; clear CC9 TT9
            try simp only [List.getElem_toArray, List.getElem_cons_succ, List.getElem_cons_zero, Act.put, List.setIfInBounds_toArray, List.set_cons_zero, List.set_cons_succ]
            refine wpAnyH_seq [7] _ _ _ _ (by kernel_rfl) (by simp) ?_
            simp only [List.filterMap_cons, List.filterMap_nil, List.getElem?_toArray, List.getElem?_cons_zero, List.getElem?_cons_succ]
            rw [show shaV (1 :: (W ++ W)) = joinV W W from rfl]
            refine wpSeqH_store_blk rfl 28 _ _ rfl g6 _ (u8s (joinV W W)) _ rfl rfl CC.out (by rw [List.size_toArray, u8s_length, u8s_length, hW, joinV_length]) (info28_l (joinV_length _ _)) (u8s_one _) ?_
            intro w9 c9 t9 _
            refine ⟨trivial, wpSeqH_nil ?_⟩
            have T9 := Lib.hid (TT.out.trans t9 fun _ _ e => e)
            have C9 := Lib.hid c9
            clear t9 c9 TT CC
            exact ⟨rfl, rfl, C9.out, T9.out⟩
          · rw [if_pos (by rfl)]
            refine wp_load_mid 28 _ rfl g6 0 rfl (u8s W) _ (range_of_row CC.out) hu28 rfl (info28_l hW) ?_
            refine hK.out _ _ trivial (fun _ => ?_)
            clear hK K
            try simp only [List.getElem_toArray, List.getElem_cons_succ, List.getElem_cons_zero, Act.put, List.setIfInBounds_toArray, List.set_cons_zero, List.set_cons_succ]
            refine wpAnyH_step (i := 1) (by kernel_rfl) rfl fun K hK => ?_
            go_simp
            refine (T_any _ W hW).mono ?_
            rintro e w9 ⟨rfl, t9⟩
            have CC9 := Lib.hid (t9.obj CC.out (fun e => e))
            have TT9 := Lib.hid (TT.out.pure t9)
            refine hK.out _ _ trivial ?_
            clear hK K t9 CC TT
            have CC := Lib.hid CC9.out; have TT := Lib.hid TT9.out; clear CC9 TT9
            try simp only [List.getElem_toArray, List.getElem_cons_succ, List.getElem_cons_zero, Act.put, List.setIfInBounds_toArray, List.set_cons_zero, List.set_cons_succ]
            refine wpAnyH_take (i := 2) (v := .string (bstr (1 :: W))) rfl (by kernel_rfl) (by kernel_rfl) (by kernel_rfl) (fun _ _ _ h => nomatch h.1) (Or.inl ⟨by rfl, fun w hSw => by go_simp⟩) trivial ?_
            simp only [List.getElem_toArray, List.getElem_cons_succ, List.getElem_cons_zero, Act.put, List.setIfInBounds_toArray, List.set_cons_zero, List.set_cons_succ]
            refine wpAnyH_step (i := 4) (by kernel_rfl) rfl fun K hK => ?_
            go_simp
            refine (T_any _ W hW).mono ?_
            rintro e w9 ⟨rfl, t9⟩
            have CC9 := Lib.hid (t9.obj CC.out (fun e => e))
            have TT9 := Lib.hid (TT.out.pure t9)
            refine hK.out _ _ trivial ?_
            clear hK K t9 CC TT
            have CC := Lib.hid CC9.out; have TT := Lib.hid TT9.out; clear CC9 TT9
            try simp only [List.getElem_toArray, List.getElem_cons_succ, List.getElem_cons_zero, Act.put, List.setIfInBounds_toArray, List.set_cons_zero, List.set_cons_succ]
            refine wpAnyH_take (i := 5) (v := .string (bstr (1 :: (W ++ W)))) rfl (by kernel_rfl) (by kernel_rfl) (by kernel_rfl) (fun _ _ _ h => nomatch h.1) (Or.inl ⟨by rfl, fun w hSw => by go_simp⟩) trivial ?_
            simp only [List.getElem_toArray, List.getElem_cons_succ, List.getElem_cons_zero, Act.put, List.setIfInBounds_toArray, List.set_cons_zero, List.set_cons_succ]
            refine wpAnyH_step (i := 6) (by kernel_rfl) rfl fun K hK => ?_
            go_simp
            refine (Sha_any _ (1 :: (W ++ W)) hsl).mono ?_
            rintro e w9 ⟨rfl, t9⟩
            have CC9 := Lib.hid (t9.obj CC.out (fun e => e))
            have TT9 := Lib.hid (TT.out.pure t9)
            refine hK.out _ _ trivial ?_
            clear hK K t9 CC TT
            have CC := Lib.hid CC9.out; have TT := Lib.hid TT9.out; clear CC9 TT9
            try simp only [List.getElem_toArray, List.getElem_cons_succ, List.getElem_cons_zero, Act.put, List.setIfInBounds_toArray, List.set_cons_zero, List.set_cons_succ]
            refine wpAnyH_seq [7] _ _ _ _ (by kernel_rfl) (by simp) ?_
            simp only [List.filterMap_cons, List.filterMap_nil, List.getElem?_toArray, List.getElem?_cons_zero, List.getElem?_cons_succ]
            rw [show shaV (1 :: (W ++ W)) = joinV W W from rfl]
            refine wpSeqH_store_blk rfl 28 _ _ rfl g6 _ (u8s (joinV W W)) _ rfl rfl CC.out (by rw [List.size_toArray, u8s_length, u8s_length, hW, joinV_length]) (info28_l (joinV_length _ _)) (u8s_one _) ?_
            intro w9 c9 t9 _
            refine ⟨trivial, wpSeqH_nil ?_⟩
            have T9 := Lib.hid (TT.out.trans t9 fun _ _ e => e)
            have C9 := Lib.hid c9
            clear t9 c9 TT CC
            exact ⟨rfl, rfl, C9.out, T9.out⟩
        · rw [if_pos (by rfl)]
          refine wp_load_mid 28 _ rfl g6 0 rfl (u8s W) _ (range_of_row CC.out) hu28 rfl (info28_l hW) ?_
          refine hK.out _ _ trivial (fun _ => ?_)
          clear hK K
          try simp only [List.getElem_toArray, List.getElem_cons_succ, List.getElem_cons_zero, Act.put, List.setIfInBounds_toArray, List.set_cons_zero, List.set_cons_succ]
          refine wpAnyH_step (i := 0) (by kernel_rfl) rfl fun K hK => ?_
          rw [if_pos (by rfl)]
          refine wp_load_mid 28 _ rfl g6 0 rfl (u8s W) _ (range_of_row CC.out) hu28 rfl (info28_l hW) ?_
          refine hK.out _ _ trivial ?_
          clear hK K
          try simp only [List.getElem_toArray, List.getElem_cons_zero, Act.put, List.setIfInBounds_toArray, List.set_cons_zero, List.set_cons_succ]
          refine wpAnyH_step (i := 1) (by kernel_rfl) rfl fun K hK => ?_
          go_simp
          refine (T_any _ W hW).mono ?_
          rintro e w9 ⟨rfl, t9⟩
          have CC9 := Lib.hid (t9.obj CC.out (fun e => e))
          have TT9 := Lib.hid (TT.out.pure t9)
          refine hK.out _ _ trivial ?_
          clear hK K t9 CC TT
          have CC := Lib.hid CC9.out; have TT := Lib.hid TT9.out; clear CC9 TT9
          try simp only [List.getElem_toArray, List.getElem_cons_succ, List.getElem_cons_zero, Act.put, List.setIfInBounds_toArray, List.set_cons_zero, List.set_cons_succ]
          refine wpAnyH_take (i := 2) (v := .string (bstr (1 :: W))) rfl (by kernel_rfl) (by kernel_rfl) (by kernel_rfl) (fun _ _ _ h => nomatch h.1) (Or.inl ⟨by rfl, fun w hSw => by go_simp⟩) trivial ?_
          simp only [List.getElem_toArray, List.getElem_cons_succ, List.getElem_cons_zero, Act.put, List.setIfInBounds_toArray, List.set_cons_zero, List.set_cons_succ]
          refine wpAnyH_step (i := 4) (by kernel_rfl) rfl fun K hK => ?_
          go_simp
          refine (T_any _ W hW).mono ?_
          rintro e w9 ⟨rfl, t9⟩
          have CC9 := Lib.hid (t9.obj CC.out (fun e => e))
          have TT9 := Lib.hid (TT.out.pure t9)
          refine hK.out _ _ trivial ?_
          clear hK K t9 CC TT
          have CC := Lib.hid CC9.out; have TT := Lib.hid TT9.out; clear CC9 TT9
          try simp only [List.getElem_toArray, List.getElem_cons_succ, List.getElem_cons_zero, Act.put, List.setIfInBounds_toArray, List.set_cons_zero, List.set_cons_succ]
          refine wpAnyH_take (i := 5) (v := .string (bstr (1 :: (W ++ W)))) rfl (by kernel_rfl) (by kernel_rfl) (by kernel_rfl) (fun _ _ _ h => nomatch h.1) (Or.inl ⟨by rfl, fun w hSw => by go_simp⟩) trivial ?_
          simp only [List.getElem_toArray, List.getElem_cons_succ, List.getElem_cons_zero, Act.put, List.setIfInBounds_toArray, List.set_cons_zero, List.set_cons_succ]
          refine wpAnyH_step (i := 6) (by kernel_rfl) rfl fun K hK => ?_
          go_simp
          refine (Sha_any _ (1 :: (W ++ W)) hsl).mono ?_
          rintro e w9 ⟨rfl, t9⟩
          have CC9 := Lib.hid (t9.obj CC.out (fun e => e))
          have TT9 := Lib.hid (TT.out.pure t9)
          refine hK.out _ _ trivial ?_
          clear hK K t9 CC TT
          have CC := Lib.hid CC9.out; have TT := Lib.hid TT9.out; clear CC9 TT9
          try simp only [List.getElem_toArray, List.getElem_cons_succ, List.getElem_cons_zero, Act.put, List.setIfInBounds_toArray, List.set_cons_zero, List.set_cons_succ]
          refine wpAnyH_seq [7] _ _ _ _ (by kernel_rfl) (by simp) ?_
          simp only [List.filterMap_cons, List.filterMap_nil, List.getElem?_toArray, List.getElem?_cons_zero, List.getElem?_cons_succ]
          rw [show shaV (1 :: (W ++ W)) = joinV W W from rfl]
          refine wpSeqH_store_blk rfl 28 _ _ rfl g6 _ (u8s (joinV W W)) _ rfl rfl CC.out (by rw [List.size_toArray, u8s_length, u8s_length, hW, joinV_length]) (info28_l (joinV_length _ _)) (u8s_one _) ?_
          intro w9 c9 t9 _
          refine ⟨trivial, wpSeqH_nil ?_⟩
          have T9 := Lib.hid (TT.out.trans t9 fun _ _ e => e)
          have C9 := Lib.hid c9
          clear t9 c9 TT CC
          exact ⟨rfl, rfl, C9.out, T9.out⟩
      case rest =>
        intro wc ⟨hc9, t9⟩
        have HOz := Lib.hid (t9.own HOa.out (fun k hk e => by have e2 : b2 = k := Option.some.inj hk; omega))
        have PPz := Lib.hid (PPa.out.trans t9 fun i hi e => by omega : Pure w wc)
        have hj : joinV W W = rootV (List.replicate (n + n) t) := by
          rw [HWD.out.1, HWD.out.2, show 2 ^ k + 2 ^ k = 2 ^ (k + 1) from by rw [Nat.pow_succ]; omega, rootV_twice]
        rw [hj] at hc9
        have CCz := Lib.hid hc9
        clear hc9 t9 HOa PPa CCa
        go_wp2
        exact ⟨⟨k + 1, n + n, c2, b2, by omega, by rw [HWD.out.2, Nat.pow_succ]; omega, by go_num, rfl, HOz, hb9.1, hb9.2, CCz, PPz⟩, by simp [intOf]; omega⟩
    · obtain rfl : k = H := by omega
      have q3 : ¬ ((k : Int) < k) := by omega
      have q4 : decide ((k : Int) < k) = false := decide_eq_false q3
      have hE : (shaV []).length = 32 := shaV_length _
      have sE := fun V => same28 V hE
      go_wp2_with fail
      refine wp_region_held_drew (S := fun w' => w'.rangeAt g6 0 (u8s W)) (by kernel_rfl) (show wr.drew.rangeAt g6 0 (u8s W) from range_of_row HC.out) (fun hHeld => ?_)
      refine wpAnyH_take (i := 0) (v := .slice (some ⟨b, 0, none⟩) n c) rfl (by kernel_rfl) (by kernel_rfl) (by kernel_rfl) (fun _ _ _ h => h) (Or.inl ⟨by rfl, fun w hSw => by go_simp⟩) hHeld ?_
      simp only [List.getElem_toArray, List.getElem_cons_zero, Act.put, List.setIfInBounds_toArray, List.set_cons_zero, List.set_cons_succ]
      refine wpAnyH_take (i := 2) (v := hv W) rfl (by kernel_rfl) (by kernel_rfl) (by kernel_rfl) (fun _ _ _ h => h) (yieldsIf_load_mid (by rfl) 28 _ rfl g6 0 rfl (u8s W) _ (fun w h => h) hu28 rfl (info28_l hW)) hHeld ?_
      simp only [List.getElem_toArray, List.getElem_cons_succ, List.getElem_cons_zero, Act.put, List.setIfInBounds_toArray, List.set_cons_zero, List.set_cons_succ]
      have PP := Lib.hid HP.out.drew
      have HRG1 := Lib.hid (show wr.drew.rangeAt b 0 (strs (List.replicate n t)) from HRG.out)
      have HS := Lib.hid hHeld
      clear hHeld HC HP HO HRG
      generalize wr.drew = wr at *
      refine wpAnyH_step (i := 1) (by kernel_rfl) rfl fun K hK => ?_
      go_simp
      refine (HROOT.out _ HRG1.out).mono ?_
      rintro e w9 ⟨rfl, t9⟩
      have HS9 := Lib.hid (t9.range HS.out (fun e => e)); have PP9 := Lib.hid (PP.out.pure t9)
      refine hK.out _ _ HS9.out ?_
      clear hK K t9 HS PP
      have HS := Lib.hid HS9.out; have PP := Lib.hid PP9.out; clear HS9 PP9
      try simp only [List.getElem_toArray, List.getElem_cons_succ, List.getElem_cons_zero, Act.put, List.setIfInBounds_toArray, List.set_cons_zero, List.set_cons_succ]
      refine wpAnyH_take (i := 3) (v := .bool true) rfl (by kernel_rfl) (by kernel_rfl) (by kernel_rfl) (fun _ _ _ h => h) (Or.inl ⟨by rfl, fun w hSw => by go_simp⟩) HS.out ?_
      simp only [List.getElem_toArray, List.getElem_cons_succ, List.getElem_cons_zero, Act.put, List.setIfInBounds_toArray, List.set_cons_zero, List.set_cons_succ]
      refine wpAnyH_take (i := 4) (v := .bool true) rfl (by kernel_rfl) (by kernel_rfl) (by kernel_rfl) (fun _ _ _ h => h) (Or.inl ⟨by rfl, fun w hSw => by go_simp⟩) HS.out ?_
      simp only [List.getElem_toArray, List.getElem_cons_succ, List.getElem_cons_zero, Act.put, List.setIfInBounds_toArray, List.set_cons_zero, List.set_cons_succ]
      refine wpAnyH_step (i := 5) (by kernel_rfl) rfl fun K hK => ?_
      go_simp
      refine (Root_nil _ none 0).mono ?_
      rintro e w9 ⟨rfl, t9⟩
      rw [rootV_nil]
      have HS9 := Lib.hid (t9.range HS.out (fun e => e)); have PP9 := Lib.hid (PP.out.pure t9)
      refine hK.out _ _ HS9.out ?_
      clear hK K t9 HS PP
      have HS := Lib.hid HS9.out; have PP := Lib.hid PP9.out; clear HS9 PP9
      try simp only [List.getElem_toArray, List.getElem_cons_succ, List.getElem_cons_zero, Act.put, List.setIfInBounds_toArray, List.set_cons_zero, List.set_cons_succ]
      refine wpAnyH_step (i := 6) (by kernel_rfl) rfl fun K hK => ?_
      go_simp
      refine (Sha_any _ [] (by simp)).mono ?_
      rintro e w9 ⟨rfl, t9⟩
      have HS9 := Lib.hid (t9.range HS.out (fun e => e)); have PP9 := Lib.hid (PP.out.pure t9)
      refine hK.out _ _ HS9.out ?_
      clear hK K t9 HS PP
      have HS := Lib.hid HS9.out; have PP := Lib.hid PP9.out; clear HS9 PP9
      try simp only [List.getElem_toArray, List.getElem_cons_succ, List.getElem_cons_zero, Act.put, List.setIfInBounds_toArray, List.set_cons_zero, List.set_cons_succ]
      refine wpAnyH_take (i := 7) (v := .bool true) rfl (by kernel_rfl) (by kernel_rfl) (by kernel_rfl) (fun _ _ _ h => h) (Or.inl ⟨by rfl, fun w hSw => by go_simp⟩) HS.out ?_
      simp only [List.getElem_toArray, List.getElem_cons_succ, List.getElem_cons_zero, Act.put, List.setIfInBounds_toArray, List.set_cons_zero, List.set_cons_succ]
      refine wpAnyH_take (i := 8) (v := .bool true) rfl (by kernel_rfl) (by kernel_rfl) (by kernel_rfl) (fun _ _ _ h => h) (Or.inl ⟨by rfl, fun w hSw => by go_simp⟩) HS.out ?_
      simp only [List.getElem_toArray, List.getElem_cons_succ, List.getElem_cons_zero, Act.put, List.setIfInBounds_toArray, List.set_cons_zero, List.set_cons_succ]
      refine wpAnyH_take (i := 9) (v := .bool true) rfl (by kernel_rfl) (by kernel_rfl) (by kernel_rfl) (fun _ _ _ h => h) (Or.inl ⟨by rfl, fun w hSw => by go_simp⟩) HS.out ?_
      simp only [List.getElem_toArray, List.getElem_cons_succ, List.getElem_cons_zero, Act.put, List.setIfInBounds_toArray, List.set_cons_zero, List.set_cons_succ]
      refine wpAnyH_step (i := 10) (by kernel_rfl) rfl fun K hK => ?_
      go_simp
      refine (Num9_any _ _).mono ?_
      rintro e w9 ⟨rfl, rfl⟩
      refine hK.out _ _ HS.out ?_
      clear hK K
      try simp only [List.getElem_toArray, List.getElem_cons_succ, List.getElem_cons_zero, Act.put, List.setIfInBounds_toArray, List.set_cons_zero, List.set_cons_succ]
      refine wpAnyH_take (i := 11) (v := .bool true) rfl (by kernel_rfl) (by kernel_rfl) (by kernel_rfl) (fun _ _ _ h => h) (Or.inl ⟨by rfl, fun w hSw => by go_simp⟩) HS.out ?_
      simp only [List.getElem_toArray, List.getElem_cons_succ, List.getElem_cons_zero, Act.put, List.setIfInBounds_toArray, List.set_cons_zero, List.set_cons_succ]
      refine wpAnyH_take (i := 12) (v := .bool true) rfl (by kernel_rfl) (by kernel_rfl) (by kernel_rfl) (fun _ _ _ h => h) (Or.inl ⟨by rfl, fun w hSw => by go_simp⟩) HS.out ?_
      simp only [List.getElem_toArray, List.getElem_cons_succ, List.getElem_cons_zero, Act.put, List.setIfInBounds_toArray, List.set_cons_zero, List.set_cons_succ]
      refine wpAnyH_take (i := 13) (v := .bool true) rfl (by kernel_rfl) (by kernel_rfl) (by kernel_rfl) (fun _ _ _ h => h) (Or.inl ⟨by rfl, fun w hSw => by go_simp⟩) HS.out ?_
      simp only [List.getElem_toArray, List.getElem_cons_succ, List.getElem_cons_zero, Act.put, List.setIfInBounds_toArray, List.set_cons_zero, List.set_cons_succ]
      refine wpAnyH_done (by kernel_rfl) ?_ _
      go_wp2
      go_ret
      exact ⟨rfl, PP.out⟩
end Go.Proofs.Ytjbigghjbcjelaa
