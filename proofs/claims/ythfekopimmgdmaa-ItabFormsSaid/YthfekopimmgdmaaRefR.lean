/- Walks of the reference's readers. -/
import Derived.Test.YthfekopimmgdmaaRefB
namespace Go.Proofs.Ythfekopimmgdmaa
open Go.RowKit

/-- A reference reader at g: all bytes, and how many are gone past. -/
structure IsRr (w : World) (g : Nat) (S : List UInt8) (p : Nat) : Prop where
  cell : w.heap[g]? = some (.cells #[.string (bstr S), .int .i64 (p : Int)] 81 (0, 0))
  len : S.length ≤ 2305843009213693951
  le : p ≤ S.length
theorem IsRr.at0 {w : World} {g : Nat} {S : List UInt8} {p : Nat} (h : IsRr w g S p) : w.cell? ⟨g, 0, none⟩ = some (.string (bstr S)) := by simp [World.cell?, h.cell]
theorem IsRr.at1 {w : World} {g : Nat} {S : List UInt8} {p : Nat} (h : IsRr w g S p) : w.cell? ⟨g, 1, none⟩ = some (.int .i64 (p : Int)) := by simp [World.cell?, h.cell]
theorem IsRr.free {w : World} {g : Nat} {S : List UInt8} {p : Nat} (h : IsRr w g S p) (j : Nat) : w.frozen? ⟨g, j, none⟩ = false := by simp [World.frozen?, h.cell]
theorem IsRr.lt {w : World} {g : Nat} {S : List UInt8} {p : Nat} (h : IsRr w g S p) : g < w.heap.size := (Array.getElem?_eq_some_iff.1 h.cell).1
theorem IsRr.turn {w w' : World} {g : Nat} {S : List UInt8} {p : Nat} {B : Nat → Prop} (h : IsRr w g S p) (ht : Turn B w w') (hn : ¬ B g) : IsRr w' g S p := ⟨ht.obj h.cell hn, h.len, h.le⟩
structure ReadR (w w' : World) (g : Nat) (S : List UInt8) (p : Nat) : Prop where
  rd : IsRr w' g S p
  turn : Turn (fun k => k = g) w w'
theorem ReadR.same {w w' : World} {g : Nat} {S : List UInt8} {p : Nat} (h : IsRr w g S p) (ht : Pure w w') : ReadR w w' g S p := ⟨h.turn ht (fun e => e), ht.mono fun _ _ e => e.elim⟩
theorem IsRr.set {w : World} {g : Nat} {S : List UInt8} {p p' : Nat} (h : IsRr w g S p) (hl : p' ≤ S.length) : IsRr (w.setCell ⟨g, 1, none⟩ (.int .i64 (p' : Int))) g S p' :=
  ⟨by simp [World.setCell, Array.getElem?_modify, h.cell], h.len, hl⟩
theorem Turn.ofDrawn (w : World) (n : Nat) : Pure w (w.drewN n) := (Turn.refl _ _).drewN n

set_option maxRecDepth 100000 in
set_option maxHeartbeats 400000 in
theorem RRLeft_any (w : World) (g : Nat) (S : List UInt8) (p : Nat) (h : IsRr w g S p) :
    Calls Try.prog 58 #[.pointer (some ⟨g, 0, none⟩)] w fun e w' => e = .returned (.int .i64 ((S.length - p : Nat) : Int)) ∧ ∃ m, w' = w.drewN m := by
  have h0 := h.at0
  have h1 := h.at1
  have hz := bstr_size S
  have hl := h.len
  have hle := h.le
  have e : ((S.length - p : Nat) : Int) = (S.length : Int) - p := by omega
  rw [e]
  clear e
  go_enter Try.func58, Try.ntmps58
  go_wp2
  go_quiet (fail)
  go_wp2
  go_ret
  exact ⟨rfl, nq, rfl⟩

theorem fitsB_zero (n : Int) : fitsB 0 n = sizedB n := by
  by_cases h : sizedB n = true
  · obtain ⟨m, rfl, hm⟩ := sized_nat h
    rw [h]
    rcases hm with rfl | rfl | rfl <;> rfl
  · simp [fitsB, show sizedB n = false by simpa using h]

/-- Where a reader stands behind a number. -/
def rrNum (S : List UInt8) (p : Nat) (n : Int) : Nat := if sizedB n ∧ n.toNat ≤ S.length - p then p + n.toNat else p
theorem rrNum_le (S : List UInt8) (p : Nat) (n : Int) (h : p ≤ S.length) : rrNum S p n ≤ S.length := by unfold rrNum; split <;> omega
theorem rrNum_left (S : List UInt8) (p : Nat) (n : Int) : S.drop (rrNum S p n) = (rdNum (S.drop p) n).2.2 := by
  unfold rrNum rdNum
  by_cases h1 : sizedB n = true
  · by_cases h2 : n.toNat ≤ S.length - p
    · rw [if_pos ⟨h1, h2⟩, if_pos h1, if_pos (by simpa using h2)]
      simp
    · rw [if_neg (fun h => h2 h.2), if_pos h1, if_neg (by simpa using h2)]
  · rw [if_neg (fun h => h1 h.1), if_neg h1]

set_option maxRecDepth 100000 in
set_option maxHeartbeats 1000000 in
theorem RRNum_any (w : World) (g : Nat) (S : List UInt8) (p : Nat) (n : Int) (h : IsRr w g S p) :
    Calls Try.prog 55 #[.pointer (some ⟨g, 0, none⟩), .int .i64 n] w fun e w' =>
      e = .returned (.tuple #[.int .i64 (rdNum (S.drop p) n).1, .int .i64 (rdNum (S.drop p) n).2.1]) ∧ ReadR w w' g S (rrNum S p n) := by
  by_cases hs : sizedB n = true
  · obtain ⟨m, rfl, hm0⟩ := sized_nat hs
    have hm : m ≤ 4 := by omega
    have hf := fitsB_zero m
    rw [hs] at hf
    by_cases hc : m ≤ S.length - p
    · have e1 : rdNum (S.drop p) m = ((numB ((S.drop p).take m) : Int), 0, (S.drop p).drop m) := by rw [rdNum, if_pos hs, Int.toNat_natCast, if_pos (by simpa using hc)]
      have e2 : rrNum S p m = p + m := by rw [rrNum, if_pos ⟨hs, by simpa using hc⟩, Int.toNat_natCast]
      have hlt : ((S.drop p).take m).length = m := by simp; omega
      rw [e2]
      have E1 := Lib.hid e1; clear e1 e2
      rw [E1.out]
      have HF := Lib.hid hf; clear hf hs
      have HM := Lib.hid hm0; clear hm0
      have HTT := Lib.hid (rfl : (S.drop p).take m = (S.drop p).take m)
      have hle := h.le
      have hSl := h.len
      go_enter Try.func55, Try.ntmps55
      go_wp2_with fail
      refine (sizedR_any _ _ _).mono ?_
      rintro e w1 ⟨rfl, rfl⟩
      rw [HF.out]
      go_wp2_with fail
      refine (RRLeft_any _ _ _ _ h).mono ?_
      rintro e w1 ⟨rfl, nd, rfl⟩
      go_wp2
      go_loopw [6, 7] (fun x i wr => ∃ k : Nat, k ≤ m ∧ i = .int .i64 k ∧ x = .int .i64 (numB (((S.drop p).take m).take k) : Nat) ∧ ∃ q, wr = w.drewN q) (fun _ i _ => m - (intOf i).toNat)
      case atStart => exact ⟨0, by omega, rfl, by simp [numB], _, rfl⟩
      case round =>
        obtain ⟨k, hk, rfl, rfl, q, rfl⟩ := hrel
        by_cases hlk : k < m
        · have hx := numB_lt (((S.drop p).take m).take k)
          have hpw : 256 ^ (((S.drop p).take m).take k).length ≤ 256 ^ 3 := Nat.pow_le_pow_right (by omega) (by simp; omega)
          have hx2 : numB (((S.drop p).take m).take k) < 16777216 := by omega
          have hsn : numB (((S.drop p).take m).take (k + 1)) = numB (((S.drop p).take m).take k) * 256 + (S.getD (p + k) 0).toNat := by
            have hget : ((S.drop p).take m)[k]? = some (S.getD (p + k) 0) := by
              rw [List.getElem?_take_of_lt hlk, List.getElem?_drop]; simp [List.getD, show p + k < S.length by omega]
            rw [List.take_add_one, hget, Option.toList_some, numB_snoc]
          have HSN := Lib.hid hsn; clear hsn
          clear hx hpw
          generalize numB (((S.drop p).take m).take k) = X at hx2 HSN
          have h0 := h.at0
          have h1 := h.at1
          have hz := bstr_size S
          have b1 : 0 ≤ (p : Int) + k := by omega
          have b2 : (p : Int) + k < S.length := by omega
          have b3 : ((p : Int) + k).toNat = p + k := by omega
          have b4 : IntKind.i64.wrap ((p : Int) + k) = p + k := IntWalk.i64_in _ (by omega)
          have b5 : IntKind.i64.wrap ((X : Int) * 256) = X * 256 := IntWalk.i64_in _ (by omega)
          go_wp2
          go_quiet (fail)
          go_wp2
          refine ⟨⟨k + 1, by omega, by go_num, ?_, _, rfl⟩, by simp [intOf]; omega⟩
          have hb := (S.getD (p + k) 0).toNat_lt
          rw [bstr_get, wrap_byte, or8 X _ (by omega) (by omega) (by omega), HSN.out]
          go_num
        · obtain rfl : k = m := by omega
          have ht : ((S.drop p).take k).take k = (S.drop p).take k := List.take_of_length_le (by omega)
          rw [ht]
          have h1 := h.at1
          have hfr := h.free 1
          have b4 : IntKind.i64.wrap ((p : Int) + k) = p + k := IntWalk.i64_in _ (by omega)
          have hcast : ((p : Int) + k) = ((p + k : Nat) : Int) := by omega
          have HC := Lib.hid hcast; clear hcast
          go_wp2
          rw [HC.out]
          go_ret2
          refine ⟨rfl, ⟨?_, ?_⟩⟩
          · exact IsRr.set (h.turn (Turn.ofDrawn w q) (fun e => e)) (by omega)
          · exact ((Turn.refl (fun k => k = g) w).drewN q).setCell (fun _ => rfl) _
    · have e1 : rdNum (S.drop p) m = (0, 300, S.drop p) := by rw [rdNum, if_pos hs, Int.toNat_natCast, if_neg (by simpa using hc)]
      have e2 : rrNum S p m = p := by rw [rrNum, if_neg (fun hh => hc (by simpa using hh.2))]
      rw [e2, e1]
      clear e1 e2
      have HF := Lib.hid hf; clear hf hs
      have hle := h.le
      have hSl := h.len
      go_enter Try.func55, Try.ntmps55
      go_wp2_with fail
      refine (sizedR_any _ _ _).mono ?_
      rintro e w1 ⟨rfl, rfl⟩
      rw [HF.out]
      go_wp2_with fail
      refine (RRLeft_any _ _ _ _ h).mono ?_
      rintro e w1 ⟨rfl, nd, rfl⟩
      go_wp2
      go_ret2
      exact ⟨rfl, ReadR.same h (Turn.ofDrawn _ _)⟩
  · have hs' : sizedB n = false := by simpa using hs
    have hf := fitsB_zero n
    rw [hs'] at hf
    have e1 : rdNum (S.drop p) n = (0, 301, S.drop p) := by rw [rdNum, if_neg hs]
    have e2 : rrNum S p n = p := by rw [rrNum, if_neg (fun hh => hs hh.1)]
    rw [e2, e1]
    clear e1 e2 hs hs'
    have HF := Lib.hid hf; clear hf
    go_enter Try.func55, Try.ntmps55
    go_wp2_with fail
    refine (sizedR_any _ _ _).mono ?_
    rintro e w1 ⟨rfl, rfl⟩
    rw [HF.out]
    go_wp2
    go_ret2
    exact ⟨rfl, ReadR.same h (Turn.refl _ _)⟩

/-- Where a reader stands behind a text. -/
def rrText (S : List UInt8) (p : Nat) (n : Int) : Nat := if (rdText (S.drop p) n).2.1 = 0 then rrNum S p n + (rdNum (S.drop p) n).1.toNat else p

set_option maxRecDepth 100000 in
set_option maxHeartbeats 1000000 in
theorem RRText_any (w : World) (g : Nat) (S : List UInt8) (p : Nat) (n : Int) (h : IsRr w g S p) :
    Calls Try.prog 57 #[.pointer (some ⟨g, 0, none⟩), .int .i64 n] w fun e w' =>
      e = .returned (.tuple #[.string (bstr (rdText (S.drop p) n).1), .int .i64 (rdText (S.drop p) n).2.1]) ∧ ReadR w w' g S (rrText S p n) := by
  have h1 := h.at1
  have hleft := rrNum_left S p n
  have hnle := rrNum_le S p n h.le
  rcases rdNum_cases (S.drop p) n with ⟨h0, a, ha, hb⟩ | ⟨h0, hs⟩
  · have h0' : ((rdNum (S.drop p) n).2.1 != 0) = false := by simp [h0]
    by_cases hc : a ≤ S.length - rrNum S p n
    · have e1 : rdText (S.drop p) n = ((S.drop (rrNum S p n)).take a, 0, (S.drop (rrNum S p n)).drop a) := by rw [rdText, if_neg (by simp [h0]), ha, Int.toNat_natCast, ← hleft, if_pos (by simpa using hc)]
      have e2 : rrText S p n = rrNum S p n + a := by rw [rrText, e1, if_pos rfl, ha, Int.toNat_natCast]
      rw [e1, e2]
      clear e1 e2 hleft
      have HA := Lib.hid ha; clear ha
      have H0 := Lib.hid h0; clear h0
      have hcon := RRNum_any w g S p n h
      generalize rrNum S p n = P at hnle hc hcon ⊢
      have HCON := Lib.hid hcon; clear hcon
      have hSl := h.len
      go_enter Try.func57, Try.ntmps57
      go_wp2_with fail
      refine HCON.out.mono ?_
      rintro e w1 ⟨rfl, hr⟩
      rw [HA.out, H0.out]
      go_wp2_with fail
      refine (RRLeft_any _ _ _ _ hr.rd).mono ?_
      rintro e w2 ⟨rfl, nd, rfl⟩
      have g0 := hr.rd.at0
      have g1 := hr.rd.at1
      have gf := hr.rd.free 1
      have HR := Lib.hid hr; clear hr
      have ex : (bstr S).extract P (P + a) = bstr ((S.drop P).take a) := by rw [bstr_ext, List.drop_take]; simp
      have EX := Lib.hid ex; clear ex
      have hz := bstr_size S
      have c1 : (a : Int) ≤ ((S.length - P : Nat) : Int) := by omega
      have hcast : ((P : Int) + a) = ((P + a : Nat) : Int) := by omega
      have HC := Lib.hid hcast; clear hcast
      have b1 : 0 ≤ (P : Int) + a := by omega
      have b2 : (P : Int) + a ≤ S.length := by omega
      have b3 : ((P : Int) + a).toNat = P + a := by omega
      have b4 : IntKind.i64.wrap ((P : Int) + a) = P + a := IntWalk.i64_in _ (by omega)
      go_wp2_with fail
      go_quiet (fail)
      go_wp2
      rw [EX.out, HC.out]
      go_ret2
      refine ⟨rfl, ⟨?_, ?_⟩⟩
      · exact IsRr.set (HR.out.rd.turn (Turn.ofDrawn w1 _) (fun e => e)) (by omega)
      · exact (HR.out.turn.drewN _).setCell (fun _ => rfl) _
    · have e1 : rdText (S.drop p) n = ([], 300, S.drop p) := by rw [rdText, if_neg (by simp [h0]), ha, Int.toNat_natCast, ← hleft, if_neg (by simpa using hc)]
      have e2 : rrText S p n = p := by rw [rrText, e1, if_neg (by simp)]
      rw [e1, e2]
      clear e1 e2 hleft
      have HA := Lib.hid ha; clear ha
      have H0 := Lib.hid h0; clear h0
      have hcon := RRNum_any w g S p n h
      generalize rrNum S p n = P at hnle hc hcon ⊢
      have HCON := Lib.hid hcon; clear hcon
      have hSl := h.len
      go_enter Try.func57, Try.ntmps57
      go_wp2_with fail
      refine HCON.out.mono ?_
      rintro e w1 ⟨rfl, hr⟩
      rw [HA.out, H0.out]
      go_wp2_with fail
      refine (RRLeft_any _ _ _ _ hr.rd).mono ?_
      rintro e w2 ⟨rfl, nd, rfl⟩
      have g1 := hr.rd.at1
      have gf := hr.rd.free 1
      have HR := Lib.hid hr; clear hr
      have c1 : ((S.length - P : Nat) : Int) < (a : Int) := by omega
      go_wp2
      go_ret2
      refine ⟨rfl, ⟨?_, ?_⟩⟩
      · exact IsRr.set (HR.out.rd.turn (Turn.ofDrawn w1 _) (fun e => e)) h.le
      · exact (HR.out.turn.drewN _).setCell (fun _ => rfl) _
  · have e1 : rdText (S.drop p) n = ([], (rdNum (S.drop p) n).2.1, S.drop p) := by rw [rdText, if_pos h0]
    have e2 : rrText S p n = p := by rw [rrText, e1, if_neg h0]
    rw [e2, e1]
    clear e1 e2
    have h0' : ((rdNum (S.drop p) n).2.1 != 0) = true := by simpa using h0
    have e3 : rrNum S p n = p := by
      rw [rrNum, if_neg]
      rintro ⟨k1, k2⟩
      exact h0 (by rw [rdNum, if_pos k1, if_pos (by simpa using k2)])
    have hcon := RRNum_any w g S p n h
    rw [e3] at hcon
    clear hleft hnle hs e3 h0
    have HCON := Lib.hid hcon; clear hcon
    go_enter Try.func57, Try.ntmps57
    go_wp2_with fail
    refine HCON.out.mono ?_
    rintro e w1 ⟨rfl, hr⟩
    have HR := Lib.hid hr; clear hr
    go_wp2
    go_ret2
    exact ⟨rfl, HR.out⟩

/-- Where a reader stands behind a hash. -/
def rrHash (S : List UInt8) (p : Nat) : Nat := if 32 ≤ S.length - p then p + 32 else p

set_option maxRecDepth 100000 in
set_option maxHeartbeats 1000000 in
theorem RRHash_any (w : World) (g : Nat) (S : List UInt8) (p : Nat) (h : IsRr w g S p) :
    Calls Try.prog 39 #[.pointer (some ⟨g, 0, none⟩)] w fun e w' =>
      e = .returned (.tuple #[hv (rdHash (S.drop p)).1, .int .i64 (rdHash (S.drop p)).2.1]) ∧ ReadR w w' g S (rrHash S p) := by
  have hlt := h.lt
  by_cases hc : 32 ≤ S.length - p
  · have e1 : rdHash (S.drop p) = ((S.drop p).take 32, 0, (S.drop p).drop 32) := by rw [rdHash, if_pos (by simpa using hc)]
    have e2 : rrHash S p = p + 32 := by rw [rrHash, if_pos hc]
    rw [e1, e2]
    clear e1 e2
    have hle := h.le
    have hSl := h.len
    go_enter Try.func39, Try.ntmps39
    go_wp2_with fail
    have hp : ∀ A B : Obj, Pure w ((w.alloc A).alloc B) := fun A B => ((Turn.refl _ _).alloc _).alloc _
    refine (RRLeft_any _ _ _ _ (h.turn (hp _ _) (fun e => e))).mono ?_
    rintro e w2 ⟨rfl, nd, hw2⟩
    have hz1 := (congrArg (fun W : World => W.heap[w.heap.size]?) hw2).trans (heap_alloc2_old w _ _)
    have hz2 := (congrArg (fun W : World => W.heap[w.heap.size + 1]?) hw2).trans (heap_alloc2_new w _ _)
    have hT : Pure w w2 := by rw [hw2]; exact (hp _ _).drewN nd
    clear hw2
    have hrd := h.turn hT (fun e => e)
    have h0 := hrd.at0
    have h1 := hrd.at1
    have hf1 := hrd.free 1
    have hz := bstr_size S
    have hsz := hT.size
    have HZ1 := Lib.hid hz1; clear hz1
    have HZ2 := Lib.hid hz2; clear hz2
    have ex : (bstr S).extract p (p + 32) = bstr ((S.drop p).take 32) := by rw [bstr_ext, List.drop_take]; simp
    have EX := Lib.hid ex; clear ex
    obtain ⟨i5, hi, hiz, hisz, hby⟩ := info_parts Try.infoU8
    have hlen : ((S.drop p).take 32).length = 32 := by simp; omega
    have b1 : 0 ≤ (p : Int) + 32 := by omega
    have b2 : (p : Int) + 32 ≤ S.length := by omega
    have b3 : ((p : Int) + 32).toNat = p + 32 := by omega
    have b4 : IntKind.i64.wrap ((p : Int) + 32) = p + 32 := IntWalk.i64_in _ (by omega)
    have b5 : (p : Int) ≤ p + 32 := by omega
    have hcast : ((p : Int) + 32) = ((p + 32 : Nat) : Int) := by omega
    have HC := Lib.hid hcast; clear hcast
    go_wp2_with fail
    go_still_tail 15, (by kernel_rfl)
    rw [EX.out]
    generalize htt : (S.drop p).take 32 = t at hlen ⊢
    have HTT := Lib.hid htt; clear htt
    have hsrc := Src.ofString (P := Try.prog) w2.drew (tx := 9) Try.underlying9 (bstr t)
    rw [bstr_size, byteCells_u8s, bstr_data, hlen] at hsrc
    have HS := Lib.hid hsrc; clear hsrc
    have HL := Lib.hid hlen; clear hlen
    refine wpList_copy_whole rfl _ _ 62 9 rfl 5 i5 Try.underlying62 hi hisz (w.heap.size + 1) 32 32 _ rfl rfl _ _ HZ2.out rfl (u8s t) HS.out ?_
    intro w3 hc3 ht3 hs3
    have hT3 : Turn (fun k => k = w.heap.size + 1) w2 w3 := (Turn.refl (fun k => k = w.heap.size + 1) w2).drew.trans ht3 fun _ _ e => e
    have hlt1 : w.heap.size + 1 < w2.heap.size := (Array.getElem?_eq_some_iff.1 HZ2.out).1
    have hrd3 := hrd.turn hT3 (by omega)
    have q1 := hrd3.at1
    have qf := hrd3.free 1
    have HC3 := Lib.hid hc3; clear hc3
    have hz13 := hT3.obj HZ1.out (by omega)
    have HZ13 := Lib.hid hz13; clear hz13
    have hW : Turn (fun k => k = g) w w3 := (hT.mono (S' := fun k => k = g) fun _ _ e => e.elim).trans hT3 fun i hi e => by omega
    clear h0 h1 hf1
    have hset : Turn (fun k => k = g) w3 (w3.setCell ⟨g, 1, none⟩ (.int .i64 ((p : Int) + 32))) ∧ IsRr (w3.setCell ⟨g, 1, none⟩ (.int .i64 ((p : Int) + 32))) g S (p + 32) := by
      rw [HC.out]
      exact ⟨(Turn.refl (fun k => k = g) w3).setCell (p := ⟨g, 1, none⟩) (fun _ => rfl) _, hrd3.set (by omega)⟩
    obtain ⟨r1, r2⟩ := hset
    have hc4 := r1.obj HC3.out (by omega)
    have hz4 := r1.obj HZ13.out (by omega)
    have HR1 := Lib.hid r1; clear r1
    have HR2 := Lib.hid r2; clear r2
    have HC4 := Lib.hid hc4; clear hc4
    have HZ4 := Lib.hid hz4; clear hz4
    go_wp2_with (first | (refine wpList_load_row rfl 39 _ rfl (w.heap.size + 1) rfl _ (u8s t).toArray _ _ HC4.out Try.underlying39 rfl (by rw [List.size_toArray, u8s_length, HL.out]; kernel_rfl) ?_) | (refine wpList_store_blk rfl 39 _ _ rfl w.heap.size _ (u8s t) _ rfl rfl HZ4.out (by rw [u8s_length, HL.out]; rfl) (by rw [u8s_length, HL.out]; kernel_rfl) (u8s_one t) ?_))
    intro w5 h5 ht5 _
    have hO := Lib.hid h5; clear h5
    go_wp2
    refine bodyPost_ret (v := .tuple #[hv t, .int .i64 0]) (results_cell2 Try.results39 _ _ w.heap.size _ (u8s t).toArray _ _ rfl hO.out Try.underlying39 rfl (by rw [List.size_toArray, u8s_length, HL.out]; kernel_rfl)) rfl ⟨by rw [HTT.out], HR2.out.turn ht5 (by omega), (hW.trans HR1.out fun _ _ e => e).trans ht5 fun i hi e => by omega⟩
  · have e1 : rdHash (S.drop p) = (List.replicate 32 0, 300, S.drop p) := by rw [rdHash, if_neg (by simpa using hc)]
    have e2 : rrHash S p = p := by rw [rrHash, if_neg hc]
    rw [e1, e2]
    clear e1 e2
    go_enter Try.func39, Try.ntmps39
    go_wp2_with fail
    have hp : ∀ A B : Obj, Pure w ((w.alloc A).alloc B) := fun A B => ((Turn.refl _ _).alloc _).alloc _
    refine (RRLeft_any _ _ _ _ (h.turn (hp _ _) (fun e => e))).mono ?_
    rintro e w2 ⟨rfl, nd, hw2⟩
    have hz1 := (congrArg (fun W : World => W.heap[w.heap.size]?) hw2).trans (heap_alloc2_old w _ _)
    have hz2 := (congrArg (fun W : World => W.heap[w.heap.size + 1]?) hw2).trans (heap_alloc2_new w _ _)
    have hT : Pure w w2 := by rw [hw2]; exact (hp _ _).drewN nd
    clear hw2
    have HZ1 := Lib.hid hz1; clear hz1
    have HZ2 := Lib.hid hz2; clear hz2
    go_wp2_with (first | (refine wpList_load_row rfl 39 _ rfl (w.heap.size + 1) rfl _ (u8s (List.replicate 32 0)).toArray _ _ HZ2.out Try.underlying39 rfl (by kernel_rfl) ?_) | (refine wpList_store_blk rfl 39 _ _ rfl w.heap.size _ (u8s (List.replicate 32 0)) _ rfl rfl HZ1.out rfl (by rw [u8s_length]; kernel_rfl) (u8s_one _) ?_))
    intro w5 h5 ht5 _
    have hO := Lib.hid h5; clear h5
    go_wp2
    have hW : Pure w w5 := (hT.trans ht5 fun i hi e => by omega)
    refine bodyPost_ret (v := .tuple #[hv (List.replicate 32 0), .int .i64 300]) (results_cell2 Try.results39 _ _ w.heap.size _ (u8s (List.replicate 32 0)).toArray _ _ rfl hO.out Try.underlying39 rfl (by kernel_rfl)) rfl ⟨rfl, ReadR.same h hW⟩
end Go.Proofs.Ythfekopimmgdmaa
