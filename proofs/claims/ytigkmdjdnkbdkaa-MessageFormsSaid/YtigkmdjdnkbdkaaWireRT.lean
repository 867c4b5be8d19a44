/- Package wire: texts and hashes read. -/
import Derived.Test.YtigkmdjdnkbdkaaWire
namespace Go.Proofs.Ytigkmdjdnkbdkaa
open Go.RowKit

/-- Reading a text. -/
def rdText (s : List UInt8) (n : Int) : List UInt8 × Int × List UInt8 :=
  if (rdNum s n).2.1 ≠ 0 then ([], (rdNum s n).2.1, s)
  else if (rdNum s n).1.toNat ≤ (rdNum s n).2.2.length then ((rdNum s n).2.2.take (rdNum s n).1.toNat, 0, (rdNum s n).2.2.drop (rdNum s n).1.toNat) else ([], 300, s)

theorem rdNum_cases (s : List UInt8) (n : Int) : ((rdNum s n).2.1 = 0 ∧ (∃ a : Nat, (rdNum s n).1 = a ∧ a < 4294967296)) ∨ ((rdNum s n).2.1 ≠ 0 ∧ (rdNum s n).2.2 = s) := by
  unfold rdNum
  by_cases h1 : sizedB n = true
  · rw [if_pos h1]
    by_cases h2 : n.toNat ≤ s.length
    · rw [if_pos h2]
      left
      refine ⟨rfl, _, rfl, ?_⟩
      obtain ⟨m, rfl, hm⟩ := sized_nat h1
      have := numB_lt (s.take m)
      have : 256 ^ (s.take m).length ≤ 256 ^ 4 := Nat.pow_le_pow_right (by omega) (by simp; omega)
      simp only [Int.toNat_natCast]
      omega
    · rw [if_neg h2]; right; simp
  · rw [if_neg h1]; right; simp

set_option maxRecDepth 100000 in
set_option maxHeartbeats 400000 in
theorem RText_any (w : World) (g : Nat) (s : List UInt8) (n : Int) (h : IsRd 100 w g s) :
    Calls Try.prog 25 #[.pointer (some ⟨g, 0, none⟩), .int .i64 n] w fun e w' =>
      e = .returned (.tuple #[.string (bstr (rdText s n).1), .int .i64 (rdText s n).2.1]) ∧ Read 100 w w' g (rdText s n).2.2 := by
  have h1 := h.at
  rcases rdNum_cases s n with ⟨h0, a, ha, hb⟩ | ⟨h0, hs⟩
  · have hw1 : IsRd 100 (w.alloc (.cells #[.string (bstr s)] 100)) g s := h.turn (S := fun _ => False) ((Turn.refl _ _).alloc _) (fun e => e)
    have hlt := h.lt
    by_cases hc : a ≤ (rdNum s n).2.2.length
    · have e1 : rdText s n = ((rdNum s n).2.2.take a, 0, (rdNum s n).2.2.drop a) := by rw [rdText, if_neg (by simp [h0]), ha, Int.toNat_natCast, if_pos hc]
      have e2 : rdCut (rdNum s n).2.2 a = ((rdNum s n).2.2.take a, true, (rdNum s n).2.2.drop a) := by rw [rdCut, if_pos hc]
      have E1 := Lib.hid e1; clear e1
      have E2 := Lib.hid e2; clear e2
      have HA := Lib.hid ha; clear ha
      have H0 := Lib.hid h0; clear h0
      rw [E1.out]
      go_enter Try.func25, Try.ntmps25
      go_wp2_with fail
      refine (RNum_any _ _ _ _ hw1).mono ?_
      rintro e w1 ⟨rfl, hr⟩
      rw [HA.out, H0.out]
      go_wp2_with fail
      refine (cut_any _ _ _ _ hr.rd).mono ?_
      rintro e w2 ⟨rfl, hr2⟩
      rw [E2.out] at hr2 ⊢
      have HR := Lib.hid hr; clear hr
      have HR2 := Lib.hid hr2; clear hr2
      go_wp2
      go_ret2
      exact ⟨rfl, HR2.out.rd, (((Turn.refl (fun k => k = g) w).alloc _).trans HR.out.turn fun _ _ e => e).trans HR2.out.turn fun _ _ e => e⟩
    · have e1 : rdText s n = ([], 300, s) := by rw [rdText, if_neg (by simp [h0]), ha, Int.toNat_natCast, if_neg hc]
      have e2 : rdCut (rdNum s n).2.2 a = ([], false, (rdNum s n).2.2) := by rw [rdCut, if_neg hc]
      have E1 := Lib.hid e1; clear e1
      have E2 := Lib.hid e2; clear e2
      have HA := Lib.hid ha; clear ha
      have H0 := Lib.hid h0; clear h0
      rw [E1.out]
      go_enter Try.func25, Try.ntmps25
      go_wp2_with fail
      refine (RNum_any _ _ _ _ hw1).mono ?_
      rintro e w1 ⟨rfl, hr⟩
      rw [HA.out, H0.out]
      go_wp2_with fail
      refine (cut_any _ _ _ _ hr.rd).mono ?_
      rintro e w2 ⟨rfl, hr2⟩
      rw [E2.out] at hr2 ⊢
      have hT := (((Turn.refl (fun k => k = g) w).alloc (.cells #[.string (bstr s)] 100)).trans hr.turn fun _ _ e => e).trans hr2.turn fun _ _ e => e
      have hold : w2.cell? ⟨w.heap.size, 0, none⟩ = some (.string (bstr s)) :=
        hr2.turn.cell (hr.turn.cell (by rw [World.cell?_alloc_new]; rfl) (by intro e; simp at e; omega)) (by intro e; simp at e; omega)
      have hat := hr2.rd.at
      have hfr := hr2.rd.free
      have hobj := hr2.rd.cell
      have HR := Lib.hid hr; clear hr
      have HR2 := Lib.hid hr2; clear hr2
      have HO := Lib.hid hobj; clear hobj
      go_wp2
      go_ret2
      exact ⟨rfl, ⟨by simp [World.setCell, Array.getElem?_modify, HO.out], h.len⟩, hT.setCell (fun _ => rfl) _⟩
  · have e1 : rdText s n = ([], (rdNum s n).2.1, s) := by rw [rdText, if_pos h0]
    rw [e1]
    clear e1
    have hw1 : IsRd 100 (w.alloc (.cells #[.string (bstr s)] 100)) g s := h.turn (S := fun _ => False) ((Turn.refl _ _).alloc _) (fun e => e)
    have h0' : ((rdNum s n).2.1 != 0) = true := by simpa using h0
    have HS := Lib.hid hs; clear hs
    go_enter Try.func25, Try.ntmps25
    go_wp2_with fail
    refine (RNum_any _ _ _ _ hw1).mono ?_
    rintro e w1 ⟨rfl, hr⟩
    rw [HS.out] at hr
    have HR := Lib.hid hr; clear hr
    go_wp2
    go_ret2
    exact ⟨rfl, HR.out.rd, ((Turn.refl (fun k => k = g) w).alloc _).trans HR.out.turn fun _ _ e => e⟩

/-- Reading a hash. -/
def rdHash (s : List UInt8) : List UInt8 × Int × List UInt8 := if 32 ≤ s.length then (s.take 32, 0, s.drop 32) else (List.replicate 32 0, 300, s)

set_option maxRecDepth 100000 in
set_option maxHeartbeats 400000 in
theorem RHash_any (w : World) (g : Nat) (s : List UInt8) (h : IsRd 100 w g s) :
    Calls Try.prog 28 #[.pointer (some ⟨g, 0, none⟩)] w fun e w' =>
      e = .returned (.tuple #[hv (rdHash s).1, .int .i64 (rdHash s).2.1]) ∧ Read 100 w w' g (rdHash s).2.2 := by
  have hlt := h.lt
  by_cases hc : 32 ≤ s.length
  · have e1 : rdHash s = (s.take 32, 0, s.drop 32) := by rw [rdHash, if_pos hc]
    have e2 : rdCut s 32 = (s.take 32, true, s.drop 32) := by rw [rdCut, if_pos hc]
    rw [e1]
    clear e1
    have E2 := Lib.hid e2; clear e2
    go_enter Try.func28, Try.ntmps28
    go_wp2_with fail
    refine (cut_any _ _ _ _ (h.turn (S := fun _ => False) ((Turn.refl _ _).alloc _) (fun e => e))).mono ?_
    rintro e w1 ⟨rfl, hr⟩
    rw [E2.out] at hr ⊢
    have hz := hr.turn.obj (heap_alloc_new w _) (by omega)
    have hT : Turn (fun k => k = g) w w1 := ((Turn.refl (fun k => k = g) w).alloc _).trans hr.turn fun _ _ e => e
    have hrd := hr.rd
    clear hr
    have hsz := hT.size
    have hlen : (s.take 32).length = 32 := by simp; omega
    have hsi := bstr_size (s.take 32)
    rw [hlen] at hsi
    generalize htt : s.take 32 = t at hlen hsi ⊢
    have HTT := Lib.hid htt; clear htt
    have hcv := Lib.run_convert_string_bytes (P := Try.prog) w1 9 48 5 (bstr t) Try.underlying9 Try.underlying48 Try.underlying5
    rw [hsi] at hcv
    generalize grownCap w1 32 0 5 = cap at hcv
    have hB : Turn (fun k => k = g) w (Lib.bytesWorld w1 5 (bstr t)) := bytesWorld_turn hT _ _
    have hZ := (bytesWorld_turn (Turn.refl (fun _ => False) w1) 5 (bstr t)).obj hz (fun e => e)
    have hR := hrd.turn (bytesWorld_turn (Turn.refl (fun _ => False) w1) 5 (bstr t)) (fun e => e)
    have hC : (Lib.bytesWorld w1 5 (bstr t)).rangeAt w1.heap.size 0 (u8s t) := by
      intro j v hv
      obtain ⟨hj, rfl⟩ := List.getElem?_eq_some_iff.1 hv
      rw [u8s_length] at hj
      rw [Nat.zero_add, Lib.bytesWorld_cell w1 _ _ j (by rw [bstr_size]; exact hj), bstr_data]
      simp [u8s, u8, List.getD, hj]
    generalize Lib.bytesWorld w1 5 (bstr t) = w2 at hcv hB hZ hR hC
    have hap := arrayAt_ok (P := Try.prog) w2 45 5 32 cap ⟨w1.heap.size, 0, none⟩ Try.underlying45
    clear hz hrd hT
    have HZ := Lib.hid hZ; clear hZ
    have HL := Lib.hid hlen; clear hlen
    go_wp2_with (first | (refine wpList_load_mid rfl 45 _ rfl w1.heap.size 0 rfl (u8s t) _ hC Try.underlying45 rfl (by rw [u8s_length, HL.out]; kernel_rfl) ?_) | (refine wpList_store_blk rfl 45 _ _ rfl w.heap.size _ (u8s t) _ rfl rfl HZ.out (by rw [u8s_length, HL.out]; rfl) (by rw [u8s_length, HL.out]; kernel_rfl) (u8s_one t) ?_))
    intro w3 h3 ht3 _
    have hO := Lib.hid h3; clear h3
    go_wp2
    refine bodyPost_ret (v := .tuple #[hv t, .int .i64 0]) (results_cell2 Try.results28 _ _ w.heap.size _ (u8s t).toArray _ _ rfl hO.out Try.underlying45 rfl (by rw [List.size_toArray, u8s_length, HL.out]; kernel_rfl)) rfl ⟨by rw [HTT.out], hR.turn ht3 (by omega), hB.trans ht3 fun i hi e => by omega⟩
  · have e1 : rdHash s = (List.replicate 32 0, 300, s) := by rw [rdHash, if_neg hc]
    have e2 : rdCut s 32 = ([], false, s) := by rw [rdCut, if_neg hc]
    rw [e1]
    clear e1
    have E2 := Lib.hid e2; clear e2
    go_enter Try.func28, Try.ntmps28
    go_wp2_with fail
    refine (cut_any _ _ _ _ (h.turn (S := fun _ => False) ((Turn.refl _ _).alloc _) (fun e => e))).mono ?_
    rintro e w1 ⟨rfl, hr⟩
    rw [E2.out] at hr ⊢
    have hz := hr.turn.obj (heap_alloc_new w _) (by omega)
    have hT : Turn (fun k => k = g) w w1 := ((Turn.refl (fun k => k = g) w).alloc _).trans hr.turn fun _ _ e => e
    have hrd := hr.rd
    clear hr
    have HZ := Lib.hid hz; clear hz
    go_wp2_with (refine wpList_store_blk rfl 45 _ _ rfl w.heap.size _ (u8s (List.replicate 32 0)) _ rfl rfl HZ.out rfl (by rw [u8s_length]; kernel_rfl) (u8s_one _) ?_)
    intro w3 h3 ht3 _
    have hO := Lib.hid h3; clear h3
    go_wp2
    refine bodyPost_ret (v := .tuple #[hv (List.replicate 32 0), .int .i64 300]) (results_cell2 Try.results28 _ _ w.heap.size _ (u8s (List.replicate 32 0)).toArray _ _ rfl hO.out Try.underlying45 rfl (by kernel_rfl)) rfl ⟨rfl, hrd.turn ht3 (by omega), hT.trans ht3 fun i hi e => by omega⟩

end Go.Proofs.Ytigkmdjdnkbdkaa
