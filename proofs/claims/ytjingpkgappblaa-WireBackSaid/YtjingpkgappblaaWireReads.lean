/- The law WireReads, walked. -/
import Derived.Test.YtjingpkgappblaaWireWrites
namespace Go.Proofs.Ytjingpkgappblaa
open Go.RowKit

theorem Try.sizeU8 : ∀ w, (sizeOf 5).run Try.prog w = .ok 1 w := fun _ => by kernel_rfl

/-- A reader and a reference reader, made behind w0. -/
structure TwoR (w0 w : World) (g g' : Nat) (s S : List UInt8) (p : Nat) : Prop where
  a : IsRd 87 w g s
  b : IsRr w g' S p
  ne : g ≠ g'
  na : w0.heap.size ≤ g
  nb : w0.heap.size ≤ g'
  pure : Pure w0 w
theorem TwoR.next {w0 w w' : World} {g g' : Nat} {s S : List UInt8} {p : Nat} (h : TwoR w0 w g g' s S p) (ht : Pure w w') : TwoR w0 w' g g' s S p :=
  ⟨h.a.turn ht (fun e => e), h.b.turn ht (fun e => e), h.ne, h.na, h.nb, h.pure.pure ht⟩
theorem TwoR.first {w0 w : World} {g g' : Nat} {s S s2 : List UInt8} {p : Nat} {f : FuncId} {args : Array Value} {r : Ending} (h : TwoR w0 w g g' s S p)
    (hc : Calls Try.prog f args w fun e w' => e = r ∧ Read 87 w w' g s2) : Calls Try.prog f args w fun e w' => e = r ∧ TwoR w0 w' g g' s2 S p ∧ Turn (fun k => k = g) w w' :=
  hc.mono fun _ _ ⟨he, hr⟩ => ⟨he, ⟨hr.rd, h.b.turn hr.turn (fun e => h.ne e.symm), h.ne, h.na, h.nb, h.pure.trans hr.turn fun i hi e => by have := h.na; omega⟩, hr.turn⟩
theorem TwoR.second {w0 w : World} {g g' : Nat} {s S : List UInt8} {p p2 : Nat} {f : FuncId} {args : Array Value} {r : Ending} (h : TwoR w0 w g g' s S p)
    (hc : Calls Try.prog f args w fun e w' => e = r ∧ ReadR w w' g' S p2) : Calls Try.prog f args w fun e w' => e = r ∧ TwoR w0 w' g g' s S p2 ∧ Turn (fun k => k = g') w w' :=
  hc.mono fun _ _ ⟨he, hr⟩ => ⟨he, ⟨h.a.turn hr.turn h.ne, hr.rd, h.ne, h.na, h.nb, h.pure.trans hr.turn fun i hi e => by have := h.nb; omega⟩, hr.turn⟩
theorem rdText_eq (s : List UInt8) (n : Int) : rdText s n = (if (rdNum s n).2.1 = 0 then (if (rdNum s n).1.toNat ≤ (rdNum s n).2.2.length then ((rdNum s n).2.2.take (rdNum s n).1.toNat, 0, (rdNum s n).2.2.drop (rdNum s n).1.toNat) else ([], 300, s)) else ([], (rdNum s n).2.1, s)) := by
  unfold rdText
  by_cases h : (rdNum s n).2.1 = 0
  · rw [if_neg (by simp [h]), if_pos h]
  · rw [if_pos h, if_neg h]
theorem rrText_left (S : List UInt8) (p : Nat) (n : Int) : S.drop (rrText S p n) = (rdText (S.drop p) n).2.2 := by
  have hl := rrNum_left S p n
  unfold rrText
  rw [rdText_eq]
  generalize rdNum (S.drop p) n = R at *
  by_cases h0 : R.2.1 = 0
  · rw [if_pos h0]
    by_cases hc : R.1.toNat ≤ R.2.2.length
    · rw [if_pos hc]
      simp only [if_true]
      rw [← hl, List.drop_drop]
    · rw [if_neg hc]; simp
  · rw [if_neg h0]
    simp only [h0, if_false]
theorem rrText_le (S : List UInt8) (p : Nat) (n : Int) (h : p ≤ S.length) : rrText S p n ≤ S.length := by
  have hl := rrNum_left S p n
  have hn := rrNum_le S p n h
  unfold rrText
  rw [rdText_eq]
  generalize rdNum (S.drop p) n = R at *
  by_cases h0 : R.2.1 = 0
  · rw [if_pos h0]
    by_cases hc : R.1.toNat ≤ R.2.2.length
    · rw [if_pos hc]
      simp only [if_true]
      rw [← hl, List.length_drop] at hc
      omega
    · rw [if_neg hc]; simpa using h
  · rw [if_neg h0]
    simpa [h0] using h
theorem rrHash_left (S : List UInt8) (p : Nat) : S.drop (rrHash S p) = (rdHash (S.drop p)).2.2 := by
  unfold rrHash rdHash
  by_cases h : 32 ≤ S.length - p
  · rw [if_pos h, if_pos (by simpa using h)]; simp
  · rw [if_neg h, if_neg (by simpa using h)]
theorem rrHash_le (S : List UInt8) (p : Nat) (h : p ≤ S.length) : rrHash S p ≤ S.length := by unfold rrHash; split <;> omega
theorem rdHash_len (s : List UInt8) : (rdHash s).1.length = 32 := by unfold rdHash; split <;> simp; omega

set_option maxRecDepth 100000 in
set_option maxHeartbeats 1000000 in
theorem WireReads_any (S : List UInt8) (v : Value) (xs : List ActV) (w : World) (hS : S.length ≤ 140737488351232) (hv : IsActs w v xs) (hl : xs.length ≤ 140737488351232) :
    Calls Try.prog 9 #[.string (bstr S), v] w fun e w' => e = .returned (.bool true) ∧ Pure w w' := by
  obtain ⟨ao, cap, rfl, hle, _, hel⟩ := hv
  go_enter Try.func9, Try.ntmps9
  go_wp2_with fail
  refine (Open_any w S (by omega)).mono ?_
  rintro e w1 ⟨rfl, h1, ht1⟩
  have hlt1 := h1.lt
  have hT0 : TwoR w (w1.alloc (.cells #[.string (bstr S), .int .i64 0] 66)) w.heap.size w1.heap.size (S.drop 0) S 0 :=
    ⟨h1.turn (S := fun _ => False) ((Turn.refl _ _).alloc _) (fun e => e), ⟨by rw [heap_alloc_new]; rfl, by omega, by omega⟩, by omega, Nat.le_refl _, ht1.size, ht1.alloc _⟩
  have hg0 : w.heap.size < w1.heap.size := hlt1
  go_wp2_with fail
  clear h1 ht1 hlt1
  generalize w.heap.size = g at *
  generalize w1.heap.size = g' at *
  go_loopw [7] (fun i wr => ∃ k p, k ≤ xs.length ∧ k ≤ 60 ∧ i = .int .i64 (k : Nat) ∧ p ≤ S.length ∧ TwoR w wr g g' (S.drop p) S p) (fun i _ => 60 - (intOf i).toNat)
  case atStart => exact ⟨0, 0, by omega, by omega, rfl, by omega, hT0⟩
  case round =>
    clear hT0
    obtain ⟨k, p, hk, hk60, rfl, hp, hT⟩ := hrel
    by_cases hlt : k < 60 ∧ k < xs.length
    · obtain ⟨hk1, hk2⟩ := hlt
      obtain ⟨hok, b, o, rfl, hr⟩ := hel k xs[k] (by simp [hk2])
      generalize xs[k] = a at hok hr
      have hr2 : wr.rangeAt b (o + k * 36) a.cells := fun j u hu => hT.pure.cell (hr j u hu) (fun e => e)
      have hlen := ActV.len hok
      have HLEN := Lib.hid hlen; clear hlen
      go_wp2_with (first | (refine wpList_load_mid rfl 58 _ rfl b (o + k * 36) rfl a.cells _ hr2 Try.underlying58 rfl (by rw [HLEN.out]; kernel_rfl) ?_) | (refine wpList_store_blk rfl 58 _ _ rfl wr.heap.size _ a.cells _ rfl rfl (heap_alloc_new _ _) (by rw [HLEN.out]; rfl) (by rw [HLEN.out]; kernel_rfl) a.one ?_))
      intro wa hca hta _
      have hpa : Pure wr wa := ((Turn.refl (fun _ => False) wr).alloc _).trans hta fun i hi e => by omega
      have hTa := hT.next hpa
      have hga : g < wr.heap.size := hT.a.lt
      have hga' : g' < wr.heap.size := hT.b.lt
      clear hta hr2 hr HLEN hel hT hpa
      have hA : ActAt wa wr.heap.size a := ⟨hca⟩
      clear hca
      generalize wr.heap.size = ga at *
      have x0 := hA.c0
      have x2 := hA.c2
      have hnl := rrNum_left S p a.S
      have hnle := rrNum_le S p a.S hp
      have htl := rrText_left S p a.S
      have htle := rrText_le S p a.S hp
      have hhl := rrHash_left S p
      have hhle := rrHash_le S p hp
      have hhn := rdHash_len (S.drop p)
      by_cases hK4 : a.K < 4
      · clear htl htle hhl hhle hhn
        have hc1 := RNum_any wa g (S.drop p) a.S hTa.a
        have hc2 := fun W h => RRNum_any W g' S p a.S h
        rw [← hnl] at hc1
        generalize rdNum (S.drop p) a.S = R at hc1 hc2
        generalize rrNum S p a.S = p2 at hc1 hc2 hnle
        have HC1 := Lib.hid hc1; clear hc1
        have HC2 := Lib.hid hc2; clear hc2
        clear hnl
        go_wp2_with fail
        refine (hTa.first HC1.out).mono ?_
        rintro e wb ⟨rfl, hTb, htb⟩
        have x2 := (hA.next htb (by omega)).c2
        go_wp2_with fail
        refine (hTb.second (HC2.out _ hTb.b)).mono ?_
        rintro e wc ⟨rfl, hTc, htc⟩
        go_wp2_with (first | (go_at_call 19; refine (Num_any _ _).mono ?_; rintro e w9 ⟨rfl, rfl⟩) | (go_at_call 42; refine (RLeft_any _ _ _ hTc.a).mono ?_; rintro e w9 ⟨rfl, rfl⟩) | (go_at_call 43; refine (RRLeft_any _ _ _ _ hTc.b).mono ?_; rintro e w9 ⟨rfl, nd, rfl⟩))
        exact ⟨⟨k + 1, p2, by omega, by omega, by go_num, hnle, hTc.next (Turn.ofDrawn _ _)⟩, by simp [intOf]; omega⟩
      · by_cases hK7 : a.K < 7
        · clear hnl hnle hhl hhle hhn
          have hc1 := RText_any wa g (S.drop p) a.S hTa.a
          have hc2 := fun W h => RRText_any W g' S p a.S h
          rw [← htl] at hc1
          generalize rdText (S.drop p) a.S = R at hc1 hc2
          generalize rrText S p a.S = p2 at hc1 hc2 htle
          have HC1 := Lib.hid hc1; clear hc1
          have HC2 := Lib.hid hc2; clear hc2
          clear htl
          go_wp2_with fail
          refine (hTa.first HC1.out).mono ?_
          rintro e wb ⟨rfl, hTb, htb⟩
          have x2 := (hA.next htb (by omega)).c2
          go_wp2_with fail
          refine (hTb.second (HC2.out _ hTb.b)).mono ?_
          rintro e wc ⟨rfl, hTc, htc⟩
          go_wp2_with (first | (go_at_call 19; refine (Num_any _ _).mono ?_; rintro e w9 ⟨rfl, rfl⟩) | (go_at_call 42; refine (RLeft_any _ _ _ hTc.a).mono ?_; rintro e w9 ⟨rfl, rfl⟩) | (go_at_call 43; refine (RRLeft_any _ _ _ _ hTc.b).mono ?_; rintro e w9 ⟨rfl, nd, rfl⟩))
          exact ⟨⟨k + 1, p2, by omega, by omega, by go_num, htle, hTc.next (Turn.ofDrawn _ _)⟩, by simp [intOf]; omega⟩
        · clear hnl hnle htl htle
          have hc1 := RHash_any wa g (S.drop p) hTa.a
          have hc2 := fun W h => RRHash_any W g' S p h
          rw [← hhl] at hc1
          generalize rdHash (S.drop p) = R at hc1 hc2 hhn
          generalize rrHash S p = p2 at hc1 hc2 hhle
          have HC1 := Lib.hid hc1; clear hc1
          have HC2 := Lib.hid hc2; clear hc2
          have HHN := Lib.hid hhn; clear hhn
          clear hhl
          go_wp2_with fail
          refine (hTa.first HC1.out).mono ?_
          rintro e wb ⟨rfl, hTb, htb⟩
          go_wp2_with (refine wpList_store_blk rfl 56 _ _ rfl wb.heap.size _ (u8s R.1) _ rfl rfl (heap_alloc_new _ _) (by rw [u8s_length, HHN.out]; rfl) (by rw [u8s_length, HHN.out]; kernel_rfl) (u8s_one _) ?_)
          intro wd hcd htd hsd
          have hpd : Pure wb wd := ((Turn.refl (fun _ => False) wb).alloc _).trans htd fun i hi e => by omega
          have hTd := hTb.next hpd
          have hd1 : g' < wb.heap.size := hTb.b.lt
          clear htd
          go_wp2_with fail
          refine (hTd.second (HC2.out _ hTd.b)).mono ?_
          rintro e wc ⟨rfl, hTc, htc⟩
          have hcc := htc.obj hcd (by omega)
          clear hcd
          go_wp2_with (refine wpList_store_blk rfl 56 _ _ rfl wc.heap.size _ (u8s R.1) _ rfl rfl (heap_alloc_new _ _) (by rw [u8s_length, HHN.out]; rfl) (by rw [u8s_length, HHN.out]; kernel_rfl) (u8s_one _) ?_)
          intro we hce hte hse
          have hpe : Pure wc we := ((Turn.refl (fun _ => False) wc).alloc _).trans hte fun i hi e => by omega
          have hTe := hTc.next hpe
          have hcb := hpe.obj hcc (fun e => e)
          have hbc : wb.heap.size < wc.heap.size := (Array.getElem?_eq_some_iff.1 hcc).1
          clear hte hcc
          have HCB := Lib.hid hcb; clear hcb
          have HCE := Lib.hid hce; clear hce
          generalize wb.heap.size = gb at *
          generalize wc.heap.size = gc at *
          have hne := fun W => neq_bytes (P := Try.prog) W 56 5 32 Try.underlying56 Try.underlying5 Try.sizeU8 R.1 R.1 HHN.out HHN.out
          go_wp2_with (first | (refine wpList_load_row rfl 56 _ rfl gb rfl _ (u8s R.1).toArray _ _ HCB.out Try.underlying56 rfl (by rw [List.size_toArray, u8s_length, HHN.out]; kernel_rfl) ?_) | (refine wpList_load_row rfl 56 _ rfl gc rfl _ (u8s R.1).toArray _ _ HCE.out Try.underlying56 rfl (by rw [List.size_toArray, u8s_length, HHN.out]; kernel_rfl) ?_) | (go_at_call 19; refine (Num_any _ _).mono ?_; rintro e w9 ⟨rfl, rfl⟩) | (go_at_call 42; refine (RLeft_any _ _ _ hTe.a).mono ?_; rintro e w9 ⟨rfl, rfl⟩) | (go_at_call 43; refine (RRLeft_any _ _ _ _ hTe.b).mono ?_; rintro e w9 ⟨rfl, nd, rfl⟩))
          exact ⟨⟨k + 1, p2, by omega, by omega, by go_num, hhle, hTe.next (Turn.ofDrawn _ _)⟩, by simp [intOf]; omega⟩
    · by_cases hk1 : k < 60
      · have hk2 : ¬ k < xs.length := fun h => hlt ⟨hk1, h⟩
        clear hlt hel
        go_wp2_with (go_at_call 25; refine (awake3_any _).mono ?_; rintro e w9 ⟨rfl, h9⟩)
        go_ret
        exact ⟨rfl, hT.pure.pure h9⟩
      · clear hlt hel
        by_cases hk2 : k < xs.length
        · go_wp2_with (go_at_call 25; refine (awake3_any _).mono ?_; rintro e w9 ⟨rfl, h9⟩)
          go_ret
          exact ⟨rfl, hT.pure.pure h9⟩
        · go_wp2_with (go_at_call 25; refine (awake3_any _).mono ?_; rintro e w9 ⟨rfl, h9⟩)
          go_ret
          exact ⟨rfl, hT.pure.pure h9⟩
end Go.Proofs.Ytjingpkgappblaa
