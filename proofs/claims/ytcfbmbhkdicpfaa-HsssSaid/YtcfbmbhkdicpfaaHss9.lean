/- Chapter 2: a tagged digest: the reference's. Chapter 6: the reference's keys. Chapter 6: the reference's public keys and signatures. Chapter 6: the reference's public keys and signatures. -/
import Derived.Test.YtcfbmbhkdicpfaaTag2
import Derived.Test.YtcfbmbhkdicpfaaShaQ
import Derived.Test.YtcfbmbhkdicpfaaGrow
import Derived.Test.YtcfbmbhkdicpfaaHss2
import Derived.Test.YtcfbmbhkdicpfaaLmsA
namespace Go.Proofs.Ytcfbmbhkdicpfaa
open Go.RowKit
set_option maxRecDepth 100000

theorem conv_row {w : World} {v : Value} {n : Nat} {l : List UInt8} (h : w.ownsRow 0 5 1 v n (u8s l)) : (convert 65 9 v).run Try.prog w = .ok (.string (bstr l)) w := by
  have hl : n = l.length := by have := h.1; rw [u8s_length] at this; omega
  subst hl
  rcases h.2 with ⟨rfl, h0⟩ | ⟨g', cap, cur, rfl, _, hh, hn, _, hs, ht⟩
  · have e : l = [] := List.eq_nil_of_length_eq_zero h0
    subst e
    exact run_convert_bytes_nil w _ _ Try.underlying65 Try.underlying5 0 0 _ Try.underlying9
  · refine conv_cells w _ _ _ Try.underlying65 Try.underlying5 Try.underlying9 g' 0 l.length cap l rfl fun i hi => ?_
    have := h.cells (g := g') rfl i (u8 (l.getD i 0)) (by simp [u8s, List.getD, hi])
    simpa [Addr.add_lit] using this
theorem tagIn_succ (t : Nat) (ps : List (List UInt8)) (j : Nat) (h : j < ps.length) : tagIn t (ps.take (j + 1)) = (tagIn t (ps.take j) ++ beB (ps[j]).length 4) ++ ps[j] := by
  rw [List.take_add_one, List.getElem?_eq_getElem h, tagIn, tagIn, List.flatMap_append]
  simp only [Option.toList_some, List.flatMap_cons, List.flatMap_nil, List.append_nil, List.append_assoc]
theorem tagIn_length (t : Nat) (ps : List (List UInt8)) : (tagIn t ps).length = 1 + 4 * ps.length + sumL ps := by
  have h : ∀ ps : List (List UInt8), (ps.flatMap fun p => beB p.length 4 ++ p).length = 4 * ps.length + sumL ps := by
    intro ps
    induction ps with
    | nil => rfl
    | cons p t ih =>
      simp only [List.flatMap_cons, List.length_append, List.length_cons, ih, beB_length]
      simp only [sumL, List.map_cons, List.sum_cons]
      omega
  rw [tagIn, List.length_append, h]
  simp only [List.length_cons, List.length_nil]
  omega

set_option maxHeartbeats 4000000 in
theorem RTag_any (w : World) (t : Nat) (ht : t ≤ 4) (g : Nat) (ps : List (List UInt8)) (hg : w.heap[g]? = some (.cells (strsV ps).toArray 9 (0, 0))) (hs : sumL ps ≤ 65536) (hps : ps.length ≤ 1000) :
    Calls Try.prog 134 #[.int .i64 (t : Int), .slice (some ⟨g, 0, none⟩) ps.length ps.length] w fun e w' => e = .returned (.tuple #[hv (tagV t ps), .int .i64 0]) ∧ Pure w w' := by
  obtain ⟨X, hXl, HZ⟩ := ex28
  obtain ⟨i5, hi, hiz, hsz, hby⟩ := info_parts Try.infoU8S
  have HI5 := Lib.hid hi
  have hgl : g < w.heap.size := (Array.getElem?_eq_some_iff.1 hg).1
  have HG := Lib.hid hg
  have HSL : Hid (∀ j, sumL (ps.take j) ≤ 65536) := Lib.hid fun j => Nat.le_trans (sumL_le ps j) hs
  have htl : (tagV t ps).length = 32 := shaV_length _
  have HSH := Lib.hid (fun W (h : (tagIn t ps).length ≤ 281474976710656) => Sha_any W (tagIn t ps) h)
  have htf : (tagIn t ps).length ≤ 281474976710656 := by rw [tagIn_length]; omega
  obtain ⟨n, hn⟩ : ∃ n, n = ps.length := ⟨_, rfl⟩
  have HN := Lib.hid hn
  have q1 : ¬ ((t : Int) < 0) := by omega
  have q2 : ¬ ((4 : Int) < (t : Int)) := by omega
  have i0 : IntKind.u8.wrap (t : Int) = (t : Int) := by rw [IntKind.wrap_u8]; omega
  have hb0 : Value.int .u8 (t : Int) = u8 (UInt8.ofNat t) := by
    simp [u8]; omega
  have HB0 := Lib.hid hb0
  clear hb0
  rw [← hn] at hps ⊢
  clear hg hs hn hi
  go_enter Try.func134, Try.ntmps134
  go_wp2_with (refine wpList_allocZ rfl 62 rfl X HZ.out ?_)
  intro g4 w1 e1 c1 t1 s1
  have l4 : w.heap.size ≤ g4 := by omega
  clear e1 s1
  have D4 := Lib.hid c1; have PT := Lib.hid t1; have DG := Lib.hid (t1.obj HG.out (fun e => e))
  clear c1 t1
  go_wp2_with fail
  have hA : Pure w1 (w1.alloc (.cells #[.int .u8 (t : Int)] 5)) := (Turn.refl _ _).alloc _
  have hO : (w1.alloc (.cells #[.int .u8 (t : Int)] 5)).ownsRow 0 5 1 (.slice (some ⟨w1.heap.size, 0, none⟩) 1 1) 1 (u8s (tagIn t (ps.take 0))) := by
    have := World.ownsRow_lit (base := 0) (e := 5) (size := 1) w1 #[.int .u8 (t : Int)] 1 (Nat.zero_le _) (by decide) rfl
    rw [HB0.out] at this ⊢
    exact this
  have LB : Hid (g4 < w1.heap.size ∧ g < w1.heap.size ∧ w.heap.size ≤ w1.heap.size) := Lib.hid ⟨by have := (Array.getElem?_eq_some_iff.1 D4.out).1; omega, by have := (Array.getElem?_eq_some_iff.1 DG.out).1; omega, PT.out.size⟩
  have O0 := Lib.hid hO; have D4 := Lib.hid (hA.obj D4.out (fun e => e)); have DG := Lib.hid (hA.obj DG.out (fun e => e)); have PT := Lib.hid (PT.out.pure hA)
  have WB0 : Hid (w1.heap.size ≤ (w1.alloc (.cells #[.int .u8 (t : Int)] 5)).heap.size) := Lib.hid hA.size
  clear hA hO
  generalize w1.alloc (.cells #[.int .u8 (t : Int)] 5) = w2 at *
  generalize w1.heap.size = B at *
  have HTL : Hid (∀ j, j ≤ n → (tagIn t (ps.take j)).length = 1 + 4 * j + sumL (ps.take j)) := Lib.hid fun j hj => by rw [tagIn_length, List.length_take, Nat.min_eq_left (by rw [← HN.out]; exact hj)]
  go_loopw [6, 7, 8] (fun sz out i wr => ∃ (j : Nat) (ao : Option Addr) (c : Nat), j ≤ n ∧ i = .int .i64 (j : Int) ∧ sz = .int .i64 ((sumL (ps.take j) : Nat) : Int) ∧ out = .slice ao (1 + 4 * j + sumL (ps.take j)) c ∧ Hid (wr.ownsRow 0 5 1 (.slice ao (1 + 4 * j + sumL (ps.take j)) c) (1 + 4 * j + sumL (ps.take j)) (u8s (tagIn t (ps.take j)))) ∧ Hid (∀ q, (Value.slice ao (1 + 4 * j + sumL (ps.take j)) c).ownBlock = some q → B ≤ q) ∧ Hid (B ≤ wr.heap.size) ∧ Hid (wr.heap[g4]? = some (.cells X.toArray 62 (0, 0))) ∧ Hid (wr.heap[g]? = some (.cells (strsV ps).toArray 9 (0, 0))) ∧ Hid (Pure w wr)) (fun _ _ i _ => n - (intOf i).toNat)
  case atStart => exact ⟨0, some ⟨B, 0, none⟩, 1, by omega, rfl, rfl, rfl, O0, Lib.hid (fun q hq => by simp only [Value.ownBlock, Option.some.injEq] at hq; omega), WB0, D4, DG, PT⟩
  case round =>
    obtain ⟨j, ao, c, hj, rfl, rfl, rfl, HO, HLO, WB, D4, DG, PT⟩ := hrel
    by_cases hlt : j < n
    · have hjl : j < ps.length := by have := HN.out; omega
      have q3 : (j : Int) < n := by omega
      have q0 : (0 : Int) ≤ j := by omega
      have ca := fun (W : World) (h : W.heap[g]? = some (.cells (strsV ps).toArray 9 (0, 0))) => strs_cell (i := j) (x := ps[j]) (List.getElem?_eq_getElem hjl) h
      have hst := sumL_take ps j hjl
      have hb1 := HSL.out (j + 1)
      have htg := tagIn_succ t ps j hjl
      have zx := bstr_size ps[j]
      generalize ps[j] = x at *
      obtain ⟨a, ha⟩ : ∃ a, a = sumL (ps.take j) := ⟨_, rfl⟩
      obtain ⟨b, hb⟩ : ∃ b, b = sumL (ps.take (j + 1)) := ⟨_, rfl⟩
      rw [← ha, ← hb] at hst
      rw [← hb] at hb1
      rw [← ha] at HO HLO ⊢
      obtain ⟨lx, hlx⟩ : ∃ lx, lx = x.length := ⟨_, rfl⟩
      rw [← hlx] at hst zx htg
      obtain ⟨N, hN⟩ : ∃ N, N = 1 + 4 * j + a := ⟨_, rfl⟩
      rw [← hN] at HO HLO ⊢
      have i1 : IntKind.i64.wrap ((a : Int) + (lx : Int)) = (b : Int) := by rw [IntWalk.i64_in _ (by omega)]; omega
      have i2 : IntKind.i64.wrap ((j : Int) + 1) = ((j + 1 : Nat) : Int) := by rw [IntWalk.i64_in _ (by omega)]; omega
      have i3 : IntKind.i64.wrap (65536 - (a : Int)) = ((65536 - a : Nat) : Int) := by rw [IntWalk.i64_in _ (by omega)]; omega
      have i4 : wrap64 (65536 - (a : Int)) = ((65536 - a : Nat) : Int) := by unfold wrap64; omega
      obtain ⟨r, hr⟩ : ∃ r, r = 65536 - a := ⟨_, rfl⟩
      rw [← hr] at i3 i4
      have q4 : ¬ ((r : Int) < (lx : Int)) := by omega
      have c1 := ca _ DG.out
      have CA := Lib.hid ca
      have HBE := Lib.hid (fun W => Be_anyS lx 4 W (by omega) (by omega))
      have hbl := beB_length lx 4
      generalize beB lx 4 = b4 at *
      have HNs : Hid (N = 1 + 4 * j + a ∧ b = a + lx ∧ N + 4 + lx = 1 + 4 * (j + 1) + b) := Lib.hid (by omega)
      have HNb : Hid (N ≤ 70000 ∧ lx ≤ 65536) := Lib.hid (by omega)
      have HX := Lib.hid (And.intro hlx htg); have HBb := Lib.hid hb
      clear hst hb ha hlx htg ca hN hr hb1 q1 q2
      have hwr : g4 < B ∧ g < B := ⟨LB.out.1, LB.out.2.1⟩
      go_wp2_with fail
      refine (HBE.out _).mono ?_
      rintro e w3 ⟨rfl, t3⟩
      have HO := Lib.hid (t3.own HO.out (fun _ _ e => e)); have D4 := Lib.hid (t3.obj D4.out (fun e => e)); have DG := Lib.hid (t3.obj DG.out (fun e => e)); have PT := Lib.hid (PT.out.pure t3)
      have WB := Lib.hid (Nat.le_trans WB.out t3.size)
      clear t3 c1
      have hsrc := Src.ofString (P := Try.prog) w3 (tx := 9) Try.underlying9 (bstr b4)
      rw [bstr_size, byteCells_u8s, bstr_data, hbl] at hsrc
      have HS := Lib.hid hsrc
      clear hsrc
      go_wp2_with (at_builtin; refine wpList_append_turn _ rfl _ _ 65 9 5 rfl i5 _ 1 1 Try.underlying65 HI5.out hiz hsz hby rfl _ _ _ rfl HO.out _ rfl 4 _ HS.out ?_ ?_ ?_)
      case refine_1 => have := HNb.out; omega
      case refine_2 => have := HNb.out; omega
      intro aoN4 cN4 w4 o4 t4 b4
      rw [← u8s_app] at o4
      have HLO2 : Hid (∀ q, (Value.slice aoN4 (N + 4) cN4).ownBlock = some q → B ≤ q) := Lib.hid fun q hq => by
        rcases b4.out with e | e
        · exact HLO.out q (e ▸ hq)
        · have := Option.some.inj (e.symm.trans hq)
          have := WB.out
          omega
      have WB2 : Hid (B ≤ w4.heap.size) := Lib.hid (by have := WB.out; have := t4.size; omega)
      have HO := Lib.hid o4
      have D4 := Lib.hid (t4.obj D4.out (fun e => by have := HLO.out _ e; have := LB.out; omega))
      have DG := Lib.hid (t4.obj DG.out (fun e => by have := HLO.out _ e; have := LB.out; omega))
      have PT := Lib.hid (PT.out.trans t4 fun q hq e => by have := HLO.out _ e; have := LB.out; omega : Pure w w4)
      clear HLO WB HS o4 t4 b4
      have HLO := HLO2; have WB := WB2
      clear HLO2 WB2
      have c1 := CA.out _ DG.out
      have hsrc := Src.ofString (P := Try.prog) w4 (tx := 9) Try.underlying9 (bstr x)
      rw [bstr_size, byteCells_u8s, bstr_data, ← HX.out.1] at hsrc
      have HS := Lib.hid hsrc
      clear hsrc
      go_wp2_with (at_builtin; refine wpList_append_turn _ rfl _ _ 65 9 5 rfl i5 _ 1 1 Try.underlying65 HI5.out hiz hsz hby rfl _ _ _ rfl HO.out _ rfl lx _ HS.out ?_ ?_ ?_)
      case refine_1 => have := HNb.out; omega
      case refine_2 => have := HNb.out; omega
      intro aoN5 cN5 w5 o5 t5 b5
      rw [← u8s_app] at o5
      have HLO2 : Hid (∀ q, (Value.slice aoN5 ((N + 4) + lx) cN5).ownBlock = some q → B ≤ q) := Lib.hid fun q hq => by
        rcases b5.out with e | e
        · exact HLO.out q (e ▸ hq)
        · have := Option.some.inj (e.symm.trans hq)
          have := WB.out
          omega
      have WB2 : Hid (B ≤ w5.heap.size) := Lib.hid (by have := WB.out; have := t5.size; omega)
      have HO := Lib.hid o5
      have D4 := Lib.hid (t5.obj D4.out (fun e => by have := HLO.out _ e; have := LB.out; omega))
      have DG := Lib.hid (t5.obj DG.out (fun e => by have := HLO.out _ e; have := LB.out; omega))
      have PT := Lib.hid (PT.out.trans t5 fun q hq e => by have := HLO.out _ e; have := LB.out; omega : Pure w w5)
      clear HLO WB HS o5 t5 b5
      have HLO := HLO2; have WB := WB2
      clear HLO2 WB2
      rw [← HX.out.2] at HO
      go_wp2
      exact ⟨⟨j + 1, aoN5, cN5, by omega, by first | rfl | trivial, by rw [HBb.out], by rw [← HBb.out, ← HNs.out.2.2], by rw [← HBb.out, ← HNs.out.2.2]; exact HO, by rw [← HBb.out, ← HNs.out.2.2]; exact HLO, WB, D4, DG, PT⟩, by simp [intOf]; omega⟩
    · obtain rfl : j = n := by omega
      have q3 : ¬ ((j : Int) < j) := by omega
      have hta : ps.take j = ps := by rw [HN.out, List.take_length]
      rw [hta] at HO ⊢
      have hcv := conv_row HO.out
      have l4' : ¬ (g4 < w.heap.size) := by omega
      clear HLO DG hta hlt
      go_wp2_with fail
      refine (HSH.out _ htf).mono ?_
      rintro e w3 ⟨rfl, t3⟩
      have D4 := Lib.hid (t3.obj D4.out (fun e => e)); have PT := Lib.hid (PT.out.pure t3)
      have htl' : (shaV (tagIn t ps)).length = 32 := htl
      clear t3 hcv htl HSH
      obtain ⟨R, hR⟩ : ∃ R, R = shaV (tagIn t ps) := ⟨_, rfl⟩
      have HE : Hid (tagV t ps = R) := Lib.hid (by rw [hR]; rfl)
      rw [← hR] at htl' ⊢
      clear hR
      go_wp2_with (refine wpList_store_blk rfl 62 _ _ rfl g4 _ (u8s R) _ rfl rfl D4.out (size28 hXl htl') (info28_l htl') (u8s_one _) ?_)
      intro w4 d4 t4 _
      have D4 := Lib.hid d4; have PT := Lib.hid (PT.out.trans t4 fun q hq e => by omega : Pure w w4)
      clear d4 t4
      go_wp2
      exact bodyPost_ret (v := .tuple #[hv R, .int .i64 0]) (results_cell2 Try.results134 _ _ g4 _ (u8s R).toArray _ _ rfl D4.out Try.underlying62 rfl (info28_a htl')) rfl ⟨by rw [HE.out], PT.out⟩
end Go.Proofs.Ytcfbmbhkdicpfaa
namespace Go.Proofs.Ytcfbmbhkdicpfaa
open Go.RowKit
set_option maxRecDepth 100000

set_option maxHeartbeats 2000000 in
theorem ROf_any (w : World) (t : Nat) (ht : t ≤ 4) (a b c : List UInt8) (hl : a.length + b.length + c.length ≤ 65536) : Calls Try.prog 88 #[.int .i64 (t : Int), .string (bstr a), .string (bstr b), .string (bstr c)] w fun e w' => e = .returned (hv (tagV t [a, b, c])) ∧ Pure w w' := by
  obtain ⟨X, hXl, HZ⟩ := ex28
  have hs : sumL [a, b, c] ≤ 65536 := by simp [sumL]; omega
  have HT := Lib.hid (fun W g (h : W.heap[g]? = some (.cells (strsV [a, b, c]).toArray 9 (0, 0))) => RTag_any W t ht g [a, b, c] h hs (by simp))
  have htl : (tagV t [a, b, c]).length = 32 := shaV_length _
  generalize tagV t [a, b, c] = R at *
  go_enter Try.func88, Try.ntmps88
  go_wp2_with (refine wpList_allocZ rfl 62 rfl X HZ.out ?_)
  intro g8 w1 e1 c1 t1 s1
  have l8 : w.heap.size ≤ g8 := by omega
  clear e1 s1
  have D8 := Lib.hid c1; have PT := Lib.hid t1
  clear c1 t1
  go_wp2_with fail
  refine (HT.out _ _ (heap_alloc_new _ _)).mono ?_
  rintro e w2 ⟨rfl, t2⟩
  have hp : Pure w1 w2 := ((Turn.refl _ _).alloc _).pure t2
  have D8 := Lib.hid (hp.obj D8.out (fun e => e)); have PT := Lib.hid (PT.out.pure hp)
  clear t2 hp
  go_wp2_with (refine wpList_allocZ rfl 62 rfl X HZ.out ?_)
  intro g9 w3 e3 c3 t3 s3
  have l9 : w.heap.size ≤ g9 := by have := PT.out.size; omega
  have n89 : g8 ≠ g9 := by have := (Array.getElem?_eq_some_iff.1 D8.out).1; omega
  clear e3 s3
  go_wp2_with (refine wpList_store_blk rfl 62 _ _ rfl g9 _ (u8s R) _ rfl rfl c3 (size28 hXl htl) (info28_l htl) (u8s_one _) ?_)
  intro w4 d4 t4 _
  have D9 := Lib.hid d4; have D8 := Lib.hid (t4.obj (t3.obj D8.out (fun e => e)) n89); have PT := Lib.hid ((PT.out.pure t3).newer t4 l9)
  clear c3 t3 d4 t4
  have R9 := range_of_row D9.out
  go_wp2_with (first | (refine wpList_load_mid rfl 62 _ rfl g9 0 rfl (u8s R) _ R9 Try.underlying62 rfl (info28_l htl) ?_) | (refine wpList_store_blk rfl 62 _ _ rfl g8 _ (u8s R) _ rfl rfl D8.out (size28 hXl htl) (info28_l htl) (u8s_one _) ?_))
  intro w5 d5 t5 _
  have D8 := Lib.hid d5; have PT := Lib.hid (PT.out.newer t5 l8)
  clear d5 t5 R9
  go_wp2
  exact bodyPost_ret (v := hv R) (results_cell_row Try.results88 _ _ g8 _ (u8s R).toArray _ _ rfl D8.out Try.underlying62 rfl (info28_a htl)) rfl ⟨rfl, PT.out⟩

set_option maxHeartbeats 4000000 in
theorem lowerR_any (w : World) (k : LKey) (h n : Nat) (hk : k.height = (h : Int)) (h5 : h ≤ 5) (hn : k.next = (n : Int)) (hn2 : n ≤ 1024) (hid : k.id.length = 16) (hsd : k.seed.length = 32) : Calls Try.prog 41 #[.agg (lkC k).toArray] w fun e w' => e = .returned (.agg (lkC (lowV k)).toArray) ∧ Pure w w' := by
  have HC := Lib.hid (fun W g => @hk_cells k W g)
  obtain ⟨C, hC⟩ : ∃ C, C = lkC k := ⟨_, rfl⟩
  rw [← hC] at HC ⊢
  have hCl : C.length = 5 := by rw [hC]; rfl
  have HCI : Hid ((Try.prog.info? 23).map (·.size) = some C.length) := Lib.hid (by rw [hCl]; exact infoHK)
  clear hC hCl
  have hq : n / 2 ^ h ≤ 1024 := Nat.le_trans (Nat.div_le_self _ _) hn2
  have hlow : lowV k = ⟨k.ots, (h : Int), (tagV 2 [k.id, k.seed, beB (n / 2 ^ h) 4]).take 16, tagV 3 [k.id, k.seed, beB (n / 2 ^ h) 4], ((n % 2 ^ h : Nat) : Int)⟩ := by
    rw [lowV, upN, hk, hn]; rfl
  rw [hlow]
  clear hlow
  have hbe := fun W => Be_anyS (n / 2 ^ h) 4 W (by omega) (by omega)
  have hb4 := beB_length (n / 2 ^ h) 4
  obtain ⟨ots, height, id, seed, next⟩ := k
  simp only at hk hn hid hsd HC ⊢
  subst hk
  subst hn
  obtain ⟨q, hqd⟩ : ∃ q, q = n / 2 ^ h := ⟨_, rfl⟩
  have is1 : (n : Int) / ((2 ^ h : Nat) : Int) = (q : Int) := by rw [hqd]; rfl
  have is2 : (n : Int) / (2 : Int) ^ h = (q : Int) := by rw [← is1, Int.natCast_pow]; rfl
  have is3 : (n : Int) >>> h = (q : Int) := by rw [hqd]; exact congrArg Int.ofNat (Nat.shiftRight_eq_div_pow n h)
  have is4 : (n : Int) / (2 : Int) ^ min h 64 = (q : Int) := by rw [Nat.min_eq_left (by omega)]; exact is2
  rw [← hqd] at hbe hb4 hq ⊢
  clear hqd
  generalize beB q 4 = b4 at *
  have ho2 := fun W => ROf_any W 2 (by decide) id seed b4 (by omega)
  have ho3 := fun W => ROf_any W 3 (by decide) id seed b4 (by omega)
  have hl2 := tagV_length 2 [id, seed, b4]
  have hl3 := tagV_length 3 [id, seed, b4]
  generalize tagV 2 [id, seed, b4] = R2 at *
  generalize tagV 3 [id, seed, b4] = R3 at *
  have ht2 := fun W => T_any W R2 hl2
  have ht3 := fun W => T_any W R3 hl3
  obtain ⟨m, hm⟩ : ∃ m, m = 2 ^ h := ⟨_, rfl⟩
  have hm1 : 1 ≤ m ∧ m ≤ 1024 := by rw [hm]; exact ⟨Nat.one_le_two_pow, (big_cast h (by omega)).2⟩
  have hsh1 := big_sh1 h (by omega)
  have hsh2 := big_sh2 h (by omega)
  have hsh3 := big_sh3 h (by omega)
  have hand := and_mask n h hn2 (by omega)
  rw [← hm] at hsh1 hsh2 hsh3 hand ⊢
  obtain ⟨i1, i2⟩ := mask_wrap m hm1
  generalize m - 1 = m1 at *
  generalize n % m = r at *
  obtain ⟨I, hI⟩ : ∃ I, I = R2.take 16 := ⟨_, rfl⟩
  have ex1 : (bstr R2).extract 0 16 = bstr I := by rw [bstr_ext, hI, List.drop_zero]
  have z2 : (bstr R2).size = 32 := by rw [bstr_size, hl2]
  rw [← hI]
  have HBE := Lib.hid hbe; have HO2 := Lib.hid ho2; have HO3 := Lib.hid ho3; have HT2 := Lib.hid ht2; have HT3 := Lib.hid ht3
  clear hbe ho2 ho3 ht2 ht3 hI hm hq hl2 hl3 hb4 hid hsd
  go_enter Try.func41, Try.ntmps41
  go_wp2_with (refine wpList_boxV rfl 23 _ rfl C rfl ?_)
  intro g1 w1 e1 c1 t1 s1
  have lg1 : w.heap.size ≤ g1 := by omega
  clear e1 s1
  have D1 := Lib.hid c1; have PT := Lib.hid t1
  clear c1 t1
  go_wp2_with (refine wpList_allocZ rfl 68 rfl _ zeroLK ?_)
  intro g2 w2 e2 c2 t2 s2
  have lg2 : w.heap.size ≤ g2 := by have := PT.out.size; omega
  have n12 : g1 ≠ g2 := by have := (Array.getElem?_eq_some_iff.1 D1.out).1; omega
  clear e2 s2
  have D2 := Lib.hid c2
  have D1 := Lib.hid (t2.obj D1.out (fun e => e))
  have PT := Lib.hid (PT.out.pure t2)
  clear c2 t2
  obtain ⟨s0, s1, s2, s3, s4⟩ := HC.out _ _ D1.out
  go_wp2_with fail
  refine (HBE.out _).mono ?_
  rintro e w3 ⟨rfl, t3⟩
  have D1 := Lib.hid (t3.obj D1.out (fun e => e))
  have D2 := Lib.hid (t3.obj D2.out (fun e => e))
  have PT := Lib.hid (PT.out.pure t3)
  clear t3
  clear s0 s1 s2 s3 s4
  go_wp2_with fail
  refine wp_region_G (S := fun w' => Turn (fun k => k = g2) w3 w' ∧ Held [(g1, Obj.cells C.toArray 23 (0, 0))] w') (T := StoreAt 27 g2 (Obj.cells (lkC LKey0).toArray 68 (0, 0)) (Obj.cells (lkC ⟨ots, (h : Int), I, R3, ((r : Nat) : Int)⟩).toArray 68 (0, 0))) (by kernel_rfl) ⟨(Turn.refl _ _).drew, held_cons (show w3.drew.heap[_]? = _ from D1.out) (held_nil _)⟩ (show w3.drew.heap[g2]? = _ from D2.out) ?_
  have HG := Grow.store w3 [(g1, Obj.cells C.toArray 23 (0, 0))] 27 g2 (Obj.cells (lkC LKey0).toArray 68 (0, 0)) (Obj.cells (lkC ⟨ots, (h : Int), I, R3, ((r : Nat) : Int)⟩).toArray 68 (0, 0))
  refine atN 0 ?_
  iterate 9
    refine anyG_y HG (v := ?_) rfl (by kernel_rfl) (fun _ _ _ h => h) (StoreAt.ins (by decide)) (Or.inl ⟨by rfl, fun w hSw => ?_⟩) ?_
    rotate_left
    · skip
      obtain ⟨s0, s1, s2, s3, s4⟩ := HC.out _ _ hSw.2.head
      first | (go_simp; done) | (go_simp; with_reducible rfl)
    simp only [Nat.reduceAdd, AP]
  refine anyG_c HG (fun w hSw => HO2.out w) rfl (by kernel_rfl) (fun _ _ _ h => h) (StoreAt.ins (by decide)) (by rfl) (fun w hSw => by go_simp; first | done | with_reducible rfl) ?_
  simp only [Nat.reduceAdd, AP]
  refine anyG_c HG (fun w hSw => HT2.out w) rfl (by kernel_rfl) (fun _ _ _ h => h) (StoreAt.ins (by decide)) (by rfl) (fun w hSw => by go_simp; first | done | with_reducible rfl) ?_
  simp only [Nat.reduceAdd, AP]
  iterate 6
    refine anyG_y HG (v := ?_) rfl (by kernel_rfl) (fun _ _ _ h => h) (StoreAt.ins (by decide)) (Or.inl ⟨by rfl, fun w hSw => ?_⟩) ?_
    rotate_left
    · skip
      obtain ⟨s0, s1, s2, s3, s4⟩ := HC.out _ _ hSw.2.head
      first | (go_simp; done) | (go_simp; with_reducible rfl)
    simp only [Nat.reduceAdd, AP]
  refine anyG_c HG (fun w hSw => HO3.out w) rfl (by kernel_rfl) (fun _ _ _ h => h) (StoreAt.ins (by decide)) (by rfl) (fun w hSw => by go_simp; first | done | with_reducible rfl) ?_
  simp only [Nat.reduceAdd, AP]
  refine anyG_c HG (fun w hSw => HT3.out w) rfl (by kernel_rfl) (fun _ _ _ h => h) (StoreAt.ins (by decide)) (by rfl) (fun w hSw => by go_simp; first | done | with_reducible rfl) ?_
  simp only [Nat.reduceAdd, AP]
  iterate 8
    refine anyG_y HG (v := ?_) rfl (by kernel_rfl) (fun _ _ _ h => h) (StoreAt.ins (by decide)) (Or.inl ⟨by rfl, fun w hSw => ?_⟩) ?_
    rotate_left
    · skip
      obtain ⟨s0, s1, s2, s3, s4⟩ := HC.out _ _ hSw.2.head
      first | (go_simp; done) | (go_simp; with_reducible rfl)
    simp only [Nat.reduceAdd, AP]
  refine anyG_store (i := 27) (by kernel_rfl) rfl rfl rfl rfl rfl rfl infoLK (lkC_one _) (by intro p hp; rcases List.mem_singleton.1 hp with rfl; exact n12) ?_
  simp only [Act.put]
  refine anyG_done (by kernel_rfl) (fun w4 hS hT => ?_) _
  obtain ⟨hpS, hS⟩ := hS
  clear HG
  have PT := Lib.hid (PT.out.newer hpS lg2)
  have D2 := Lib.hid (show w4.heap[g2]? = _ from hT)
  clear hS hT hpS
  go_wp2
  exact bodyPost_ret (v := .agg (lkC ⟨ots, (h : Int), I, R3, (r : Int)⟩).toArray) (results_cell_row Try.results41 _ _ g2 _ _ _ _ rfl D2.out Try.underlying68 rfl infoLK) rfl ⟨rfl, PT.out⟩
end Go.Proofs.Ytcfbmbhkdicpfaa
namespace Go.Proofs.Ytcfbmbhkdicpfaa
open Go.RowKit
set_option maxRecDepth 100000

theorem hmay_split (k : LKey) : hmayB k = (lmayB { k with next := 0 } && decide (0 ≤ k.next) && decide (k.next ≤ 2 ^ (2 * k.height.toNat))) := by
  have h0 : decide ((0 : Int) ≤ 2 ^ k.height.toNat) = true := decide_eq_true (Int.pow_nonneg (by decide))
  simp only [hmayB, lmayB, h0, Int.le_refl, decide_true, Bool.and_true]
theorem lpub_next {U : LKey} (h : lmayB U = true) : lpubV { U with next := 0 } = lpubV U := by
  have h2 : lmayB { U with next := 0 } = true := by
    simp only [lmayB, Bool.and_eq_true, decide_eq_true_eq] at h ⊢
    exact ⟨⟨⟨⟨⟨⟨h.1.1.1.1.1.1, h.1.1.1.1.1.2⟩, h.1.1.1.1.2⟩, h.1.1.1.2⟩, h.1.1.2⟩, Int.le_refl _⟩, Int.pow_nonneg (by decide)⟩
  rw [lpubV, if_pos h2, lpubV, if_pos h]
  rfl

set_option maxHeartbeats 4000000 in
theorem RHMay_any (w : World) (k : LKey) : Calls Try.prog 34 #[.agg (lkC k).toArray] w fun e w' => e = .returned (.bool (hmayB k)) ∧ Pure w w' := by
  have HC := Lib.hid (fun W g => @hk_cells k W g)
  have hlm : ∀ W, Calls Try.prog 82 #[.agg #[.int .i64 k.ots, .int .i64 k.height, .string (bstr k.id), .string (bstr k.seed), .int .i64 0]] W fun e w' => e = .returned (.bool (lmayB { k with next := 0 })) ∧ Pure W w' := fun W => LmsMayR_any W { k with next := 0 }
  have hsp := hmay_split k
  have hmp : lmayB { k with next := 0 } = true → 1 ≤ k.height ∧ k.height ≤ 5 := fun h => by
    obtain ⟨o, ht, q, h1, h2, h3, h4, h5, _⟩ := lmay_parts h
    simp only at h3
    omega
  rw [hsp]
  generalize lmayB { k with next := 0 } = A at *
  obtain ⟨C, hC⟩ : ∃ C, C = lkC k := ⟨_, rfl⟩
  rw [← hC] at HC ⊢
  clear hC hsp
  obtain ⟨ots, height, id, seed, next⟩ := k
  simp only at HC hlm hmp ⊢
  have HLM := Lib.hid hlm
  clear hlm
  by_cases hA : A = true
  case neg =>
    obtain rfl : A = false := by simpa using hA
    simp only [Bool.false_and]
    clear hmp hA
    go_enter Try.func34, Try.ntmps34
    go_wp2_with (refine wpList_boxV rfl 23 _ rfl C rfl ?_)
    intro g1 w1 e1 c1 t1 s1
    have lg1 : w.heap.size ≤ g1 := by omega
    clear e1 s1
    have D1 := Lib.hid c1; have PT := Lib.hid t1
    clear c1 t1
    go_wp2_with fail
    refine wp_region_G (S := fun w' => Pure w1 w' ∧ Held [(g1, Obj.cells C.toArray 23 (0, 0))] w') (T := fun _ _ _ => True) (by kernel_rfl) ⟨(Turn.refl _ _).drew, held_cons (show w1.drew.heap[_]? = _ from D1.out) (held_nil _)⟩ trivial ?_
    have HG := Grow.held w1 [(g1, Obj.cells C.toArray 23 (0, 0))]
    refine atN 0 ?_
    iterate 9
      refine anyG_y HG (v := ?_) rfl (by kernel_rfl) (fun _ _ _ h => h) (fun _ _ _ => Iff.rfl) (Or.inl ⟨by rfl, fun w hSw => ?_⟩) ?_
      rotate_left
      · skip
        obtain ⟨s0, s1, s2, s3, s4⟩ := HC.out _ _ hSw.2.head
        first | (go_simp; done) | (go_simp; with_reducible rfl)
      simp only [Nat.reduceAdd, AP]
    refine anyG_c HG (fun w hSw => HLM.out w) rfl (by kernel_rfl) (fun _ _ _ h => h) (fun _ _ _ => Iff.rfl) (by rfl) (fun w hSw => by go_simp; first | done | with_reducible rfl) ?_
    simp only [Nat.reduceAdd, AP]
    iterate 15
      first
      | refine anyG_y HG (v := undef) rfl (by kernel_rfl) (fun _ _ _ h => h) (fun _ _ _ => Iff.rfl) (Or.inr ⟨by rfl, rfl⟩) ?_
      | refine anyG_y HG (v := ?_) rfl (by kernel_rfl) (fun _ _ _ h => h) (fun _ _ _ => Iff.rfl) (Or.inl ⟨by rfl, fun w hSw => ?_⟩) ?_
        rotate_left
        · skip
          obtain ⟨s0, s1, s2, s3, s4⟩ := HC.out _ _ hSw.2.head
          first | (go_simp; done) | (go_simp; with_reducible rfl)
      simp only [Nat.reduceAdd, AP]
    refine anyG_done (by kernel_rfl) (fun w2 hS _ => ?_) _
    obtain ⟨hpS, hS⟩ := hS
    clear HG
    have PT := Lib.hid (PT.out.pure hpS)
    clear hS hpS
    go_wp2
    go_ret
    exact ⟨rfl, PT.out⟩
  subst hA
  obtain ⟨h1, h5⟩ := hmp rfl
  obtain ⟨h, rfl⟩ : ∃ h : Nat, height = (h : Int) := ⟨height.toNat, by omega⟩
  simp only [Bool.true_and, Int.toNat_natCast]
  by_cases h0 : 0 ≤ next
  case neg =>
    have d0 : decide (0 ≤ next) = false := decide_eq_false h0
    rw [d0]
    simp only [Bool.false_and]
    clear hmp
    go_enter Try.func34, Try.ntmps34
    go_wp2_with (refine wpList_boxV rfl 23 _ rfl C rfl ?_)
    intro g1 w1 e1 c1 t1 s1
    have lg1 : w.heap.size ≤ g1 := by omega
    clear e1 s1
    have D1 := Lib.hid c1; have PT := Lib.hid t1
    clear c1 t1
    go_wp2_with fail
    refine wp_region_G (S := fun w' => Pure w1 w' ∧ Held [(g1, Obj.cells C.toArray 23 (0, 0))] w') (T := fun _ _ _ => True) (by kernel_rfl) ⟨(Turn.refl _ _).drew, held_cons (show w1.drew.heap[_]? = _ from D1.out) (held_nil _)⟩ trivial ?_
    have HG := Grow.held w1 [(g1, Obj.cells C.toArray 23 (0, 0))]
    refine atN 0 ?_
    iterate 9
      refine anyG_y HG (v := ?_) rfl (by kernel_rfl) (fun _ _ _ h => h) (fun _ _ _ => Iff.rfl) (Or.inl ⟨by rfl, fun w hSw => ?_⟩) ?_
      rotate_left
      · skip
        obtain ⟨s0, s1, s2, s3, s4⟩ := HC.out _ _ hSw.2.head
        first | (go_simp; done) | (go_simp; with_reducible rfl)
      simp only [Nat.reduceAdd, AP]
    refine anyG_c HG (fun w hSw => HLM.out w) rfl (by kernel_rfl) (fun _ _ _ h => h) (fun _ _ _ => Iff.rfl) (by rfl) (fun w hSw => by go_simp; first | done | with_reducible rfl) ?_
    simp only [Nat.reduceAdd, AP]
    iterate 15
      first
      | refine anyG_y HG (v := undef) rfl (by kernel_rfl) (fun _ _ _ h => h) (fun _ _ _ => Iff.rfl) (Or.inr ⟨by rfl, rfl⟩) ?_
      | refine anyG_y HG (v := ?_) rfl (by kernel_rfl) (fun _ _ _ h => h) (fun _ _ _ => Iff.rfl) (Or.inl ⟨by rfl, fun w hSw => ?_⟩) ?_
        rotate_left
        · skip
          obtain ⟨s0, s1, s2, s3, s4⟩ := HC.out _ _ hSw.2.head
          first | (go_simp; done) | (go_simp; with_reducible rfl)
      simp only [Nat.reduceAdd, AP]
    refine anyG_done (by kernel_rfl) (fun w2 hS _ => ?_) _
    obtain ⟨hpS, hS⟩ := hS
    clear HG
    have PT := Lib.hid (PT.out.pure hpS)
    clear hS hpS
    go_wp2
    go_ret
    exact ⟨rfl, PT.out⟩
  have d0 : decide (0 ≤ next) = true := decide_eq_true h0
  rw [d0]
  simp only [Bool.true_and]
  obtain ⟨e, he⟩ : ∃ e, e = 2 * h := ⟨_, rfl⟩
  have hsh1 := big_sh1 e (by omega)
  have hsh2 := big_sh2 e (by omega)
  have hsh3 := big_sh3 e (by omega)
  have i1 : IntKind.i64.wrap (2 * (h : Int)) = (e : Int) := by rw [IntWalk.i64_in _ (by omega)]; omega
  have i2 : wrap64 (2 * (h : Int)) = (e : Int) := by unfold wrap64; omega
  have hb := (big_cast e (by omega)).1
  have hB : decide (next ≤ 2 ^ (2 * h)) = decide (next ≤ ((2 ^ e : Nat) : Int)) := by rw [decide_eq_decide, ← he, hb]
  rw [hB]
  clear hB hb
  generalize 2 ^ e = m at *
  clear he hmp h1 h5
  go_enter Try.func34, Try.ntmps34
  go_wp2_with (refine wpList_boxV rfl 23 _ rfl C rfl ?_)
  intro g1 w1 e1 c1 t1 s1
  have lg1 : w.heap.size ≤ g1 := by omega
  clear e1 s1
  have D1 := Lib.hid c1; have PT := Lib.hid t1
  clear c1 t1
  go_wp2_with fail
  refine wp_region_G (S := fun w' => Pure w1 w' ∧ Held [(g1, Obj.cells C.toArray 23 (0, 0))] w') (T := fun _ _ _ => True) (by kernel_rfl) ⟨(Turn.refl _ _).drew, held_cons (show w1.drew.heap[_]? = _ from D1.out) (held_nil _)⟩ trivial ?_
  have HG := Grow.held w1 [(g1, Obj.cells C.toArray 23 (0, 0))]
  refine atN 0 ?_
  iterate 9
    refine anyG_y HG (v := ?_) rfl (by kernel_rfl) (fun _ _ _ h => h) (fun _ _ _ => Iff.rfl) (Or.inl ⟨by rfl, fun w hSw => ?_⟩) ?_
    rotate_left
    · skip
      obtain ⟨s0, s1, s2, s3, s4⟩ := HC.out _ _ hSw.2.head
      first | (go_simp; done) | (go_simp; with_reducible rfl)
    simp only [Nat.reduceAdd, AP]
  refine anyG_c HG (fun w hSw => HLM.out w) rfl (by kernel_rfl) (fun _ _ _ h => h) (fun _ _ _ => Iff.rfl) (by rfl) (fun w hSw => by go_simp; first | done | with_reducible rfl) ?_
  simp only [Nat.reduceAdd, AP]
  iterate 15
    first
    | refine anyG_y HG (v := undef) rfl (by kernel_rfl) (fun _ _ _ h => h) (fun _ _ _ => Iff.rfl) (Or.inr ⟨by rfl, rfl⟩) ?_
    | refine anyG_y HG (v := ?_) rfl (by kernel_rfl) (fun _ _ _ h => h) (fun _ _ _ => Iff.rfl) (Or.inl ⟨by rfl, fun w hSw => ?_⟩) ?_
      rotate_left
      · skip
        obtain ⟨s0, s1, s2, s3, s4⟩ := HC.out _ _ hSw.2.head
        first | (go_simp; done) | (go_simp; with_reducible rfl)
    simp only [Nat.reduceAdd, AP]
  refine anyG_done (by kernel_rfl) (fun w2 hS _ => ?_) _
  obtain ⟨hpS, hS⟩ := hS
  clear HG
  have PT := Lib.hid (PT.out.pure hpS)
  clear hS hpS
  go_wp2
  go_ret
  exact ⟨rfl, PT.out⟩
end Go.Proofs.Ytcfbmbhkdicpfaa
namespace Go.Proofs.Ytcfbmbhkdicpfaa
open Go.RowKit
set_option maxRecDepth 100000

set_option maxHeartbeats 4000000 in
theorem RHPublic_any (w : World) (k : LKey) : Calls Try.prog 12 #[.agg (lkC k).toArray] w fun e w' => e = .returned (.tuple #[.string (bstr (hpubV k).1), .int .i64 (hpubV k).2]) ∧ Pure w w' := by
  have hmay := fun W => RHMay_any W k
  have hup := fun W (h n : Nat) (hk : k.height = (h : Int)) (h5 : h ≤ 5) (hn : k.next = (n : Int)) => upperR_any W k h n hk h5 hn
  have hpv : hpubV k = if hmayB k = true then (beB 2 4 ++ (lpubV (upV k)).1, 0) else ([], 600) := rfl
  have hbe := fun W => Be_anyS 2 4 W (by omega) (by omega)
  obtain ⟨C, hC⟩ : ∃ C, C = lkC k := ⟨_, rfl⟩
  rw [← hC] at hmay hup ⊢
  have hCl : C.length = 5 := by rw [hC]; rfl
  have HCI : Hid ((Try.prog.info? 23).map (·.size) = some C.length) := Lib.hid (by rw [hCl]; exact infoHK)
  clear hC hCl
  have HBE := Lib.hid hbe
  clear hbe
  by_cases hB : hmayB k = true
  · obtain ⟨o, h, n, h1, h2, h3, h4, h5, h6, h7, h8, h9⟩ := hmay_parts hB
    have hu := fun W => hup W h n h3 h5 h8
    have huv : ({ k with next := ((n / 2 ^ h : Nat) : Int) } : LKey) = upV k := by rw [upV, upN, h3, h8]; rfl
    have hul := up_may hB
    have hpl := fun W => LmsPublicR_any W { upV k with next := 0 }
    rw [lpub_next hul] at hpl
    rw [huv] at hu
    rw [hB] at hmay
    rw [if_pos hB] at hpv
    rw [hpv]
    generalize upV k = U at *
    have hlen := lpub_length hul
    generalize lpubV U = LP at *
    obtain ⟨lp, le⟩ := LP
    simp only at hlen hpl ⊢
    have hset : (lkC U).take 4 ++ [Value.int .i64 0] ++ (lkC U).drop 5 = lkC { U with next := 0 } := rfl
    have hu1 := lkC_one U
    have hUl : (lkC U).length = 5 := rfl
    have hVl : (lkC { U with next := 0 }).length = 5 := rfl
    generalize lkC { U with next := 0 } = V at *
    generalize lkC U = U0 at *
    have hb := beB_length 2 4
    generalize beB 2 4 = b2 at *
    have zb : (bstr b2).size = 4 := by rw [bstr_size, hb]
    have zl : (bstr lp).size = 56 := by rw [bstr_size, hlen]
    obtain ⟨A1, hA1⟩ : ∃ A1, A1 = b2 ++ lp := ⟨_, rfl⟩
    have A1l : A1.length = 4 + 56 := by rw [hA1, List.length_append]; first | rfl | omega | (simp; omega) | simp
    have aA1 : bstr b2 ++ bstr lp = bstr A1 := by rw [hA1]; exact bstr_app b2 lp
    have zA1 : (bstr A1).size = 4 + 56 := by rw [bstr_size, A1l]
    have nA1 : ¬ (9223372036854775807 < 4 + 56) := by omega
    rw [← hA1]
    have HM := Lib.hid hmay; have HU := Lib.hid hu; have HP := Lib.hid hpl; have HSET := Lib.hid hset; have HU1 := Lib.hid hu1; have HUL := Lib.hid hUl
    have HUI : Hid ((Try.prog.info? 68).map (·.size) = some U0.length) := Lib.hid (by rw [hUl]; exact infoLK)
    have HVI : Hid ((Try.prog.info? 68).map (·.size) = some V.length) := Lib.hid (by rw [hVl]; exact infoLK)
    clear hmay hup hpv hu hpl h1 h2 h3 h4 h5 h6 h7 h8 h9 huv hul hB hb hlen hA1 A1l hset hu1 hUl hVl
    go_enter Try.func12, Try.ntmps12
    go_wp2_with (refine wpList_boxV rfl 23 _ rfl C rfl ?_)
    intro g1 w1 e1 c1 t1 s1
    have lg1 : w.heap.size ≤ g1 := by omega
    clear e1 s1
    have D1 := Lib.hid c1; have PT := Lib.hid t1
    clear c1 t1
    have R1 := range_of_row D1.out
    go_wp2_with (refine wpList_load_mid rfl 23 _ rfl g1 0 rfl C _ R1 Try.underlying23 rfl HCI.out ?_)
    clear R1
    refine (HM.out _).mono ?_
    rintro e w2 ⟨rfl, t2⟩
    have D1 := Lib.hid (t2.obj D1.out (fun e => e))
    have PT := Lib.hid (PT.out.pure t2)
    clear t2
    have R1 := range_of_row D1.out
    go_wp2_with (refine wpList_load_mid rfl 23 _ rfl g1 0 rfl C _ R1 Try.underlying23 rfl HCI.out ?_)
    clear R1
    refine (HU.out _).mono ?_
    rintro e w3 ⟨rfl, t3⟩
    have PT := Lib.hid (PT.out.pure t3)
    clear t3
    go_wp2_with (refine wpList_allocZ rfl 68 rfl _ zeroLK ?_)
    intro g4 w4 e4 c4 t4 s4
    have lg4 : w.heap.size ≤ g4 := by have := PT.out.size; omega
    clear e4 s4
    have D4 := Lib.hid c4
    have PT := Lib.hid (PT.out.pure t4)
    clear c4 t4
    go_wp2_with (refine wpList_store_blk rfl 68 _ _ rfl g4 _ U0 _ rfl rfl D4.out (by rw [HUL.out]; rfl) HUI.out HU1.out ?_)
    intro w5 d5 t5 _
    have D4 := Lib.hid d5; have PT := Lib.hid (PT.out.newer t5 lg4)
    clear d5 t5
    obtain ⟨d6, t6, _⟩ := setAt (i := 4) (v := .int .i64 0) D4.out (by rw [HUL.out]; omega)
    rw [HSET.out] at d6
    have fz : w5.frozen? ⟨g4, 4, none⟩ = false := frozen_of_row w5 g4 4 _ _ D4.out
    have k4 : ∃ v, w5.cell? ⟨g4, 4, none⟩ = some v := ⟨U0[4]'(by rw [HUL.out]; omega), by rw [cell_of_row w5 g4 4 _ _ _ D4.out]; simp⟩
    obtain ⟨v4, k4⟩ := k4
    have D4 := Lib.hid d6; have PT := Lib.hid (PT.out.newer t6 lg4)
    have R1 := range_of_row D4.out
    clear d6 t6
    go_wp2_with (refine wpList_load_mid rfl 68 _ rfl g4 0 rfl V _ R1 Try.underlying68 rfl HVI.out ?_)
    clear R1 k4 fz
    refine (HP.out _).mono ?_
    rintro e w7 ⟨rfl, t7⟩
    have PT := Lib.hid (PT.out.pure t7)
    clear t7 D4
    go_wp2_with fail
    refine (HBE.out _).mono ?_
    rintro e w8 ⟨rfl, t8⟩
    have PT := Lib.hid (PT.out.pure t8)
    clear t8
    go_wp2
    go_ret2
    exact ⟨rfl, PT.out⟩
  · have hB2 : hmayB k = false := by simpa using hB
    rw [hB2] at hmay
    rw [if_neg hB] at hpv
    rw [hpv]
    have HM := Lib.hid hmay
    clear hmay hup hpv hB hB2
    go_enter Try.func12, Try.ntmps12
    go_wp2_with (refine wpList_boxV rfl 23 _ rfl C rfl ?_)
    intro g1 w1 e1 c1 t1 s1
    have lg1 : w.heap.size ≤ g1 := by omega
    clear e1 s1
    have D1 := Lib.hid c1; have PT := Lib.hid t1
    clear c1 t1
    have R1 := range_of_row D1.out
    go_wp2_with (refine wpList_load_mid rfl 23 _ rfl g1 0 rfl C _ R1 Try.underlying23 rfl HCI.out ?_)
    clear R1
    refine (HM.out _).mono ?_
    rintro e w2 ⟨rfl, t2⟩
    have PT := Lib.hid (PT.out.pure t2)
    clear t2
    go_wp2
    go_ret2
    exact ⟨rfl, PT.out⟩

set_option maxHeartbeats 4000000 in
theorem RHLeft_any (w : World) (k : LKey) : Calls Try.prog 17 #[.agg (lkC k).toArray] w fun e w' => e = .returned (.int .i64 (hleftV k)) ∧ Pure w w' := by
  have hmay := fun W => RHMay_any W k
  have hpv : hleftV k = if hmayB k = true then 2 ^ (2 * k.height.toNat) - k.next else 0 := rfl
  have HC := Lib.hid (fun W g => @hk_cells k W g)
  obtain ⟨C, hC⟩ : ∃ C, C = lkC k := ⟨_, rfl⟩
  rw [← hC] at HC hmay ⊢
  have hCl : C.length = 5 := by rw [hC]; rfl
  have HCI : Hid ((Try.prog.info? 23).map (·.size) = some C.length) := Lib.hid (by rw [hCl]; exact infoHK)
  clear hC hCl
  by_cases hB : hmayB k = true
  · obtain ⟨o, h, n, h1, h2, h3, h4, h5, h6, h7, h8, h9⟩ := hmay_parts hB
    rw [hB] at hmay
    rw [if_pos hB, h3, h8, Int.toNat_natCast] at hpv
    obtain ⟨e, he⟩ : ∃ e, e = 2 * h := ⟨_, rfl⟩
    obtain ⟨hb1, hb2⟩ := big_cast e (by omega)
    have HSH := Lib.hid (And.intro (big_sh1 e (by omega)) (And.intro (big_sh2 e (by omega)) (big_sh3 e (by omega))))
    rw [← he, hb1] at hpv
    rw [← he] at h9
    rw [hpv]
    have HJ : Hid (IntKind.i64.wrap (2 * (h : Int)) = (e : Int) ∧ wrap64 (2 * (h : Int)) = (e : Int)) := Lib.hid ⟨by rw [IntWalk.i64_in _ (by omega)]; omega, by unfold wrap64; omega⟩
    clear hb1
    generalize 2 ^ e = m at *
    have HI : Hid (IntKind.i64.wrap ((m : Int) - (n : Int)) = (m : Int) - (n : Int) ∧ wrap64 ((m : Int) - (n : Int)) = (m : Int) - (n : Int)) := Lib.hid ⟨IntWalk.i64_in _ (by omega), by unfold wrap64; omega⟩
    obtain ⟨ots, height, id, seed, next⟩ := k
    simp only at HC h8 h3
    subst h8
    subst h3
    have HM := Lib.hid hmay
    clear hmay hpv h1 h2 h4 h5 h6 h7 h9 hB hb2 he
    obtain ⟨hsh1, hsh2, hsh3⟩ := HSH.out
    obtain ⟨j1, j2⟩ := HJ.out
    obtain ⟨i1, i2⟩ := HI.out
    go_enter Try.func17, Try.ntmps17
    go_wp2_with (refine wpList_boxV rfl 23 _ rfl C rfl ?_)
    intro g1 w1 e1 c1 t1 s1
    have lg1 : w.heap.size ≤ g1 := by omega
    clear e1 s1
    have D1 := Lib.hid c1; have PT := Lib.hid t1
    clear c1 t1
    have R1 := range_of_row D1.out
    go_wp2_with (refine wpList_load_mid rfl 23 _ rfl g1 0 rfl C _ R1 Try.underlying23 rfl HCI.out ?_)
    clear R1
    refine (HM.out _).mono ?_
    rintro e w2 ⟨rfl, t2⟩
    have D1 := Lib.hid (t2.obj D1.out (fun e => e))
    have PT := Lib.hid (PT.out.pure t2)
    clear t2
    go_wp2_with fail
    refine wp_region_G (S := fun w' => Pure w2 w' ∧ Held [(g1, Obj.cells C.toArray 23 (0, 0))] w') (T := fun _ _ _ => True) (by kernel_rfl) ⟨(Turn.refl _ _).drew, held_cons (show w2.drew.heap[_]? = _ from D1.out) (held_nil _)⟩ trivial ?_
    have HG := Grow.held w2 [(g1, Obj.cells C.toArray 23 (0, 0))]
    refine atN 0 ?_
    iterate 8
      refine anyG_y HG (v := ?_) rfl (by kernel_rfl) (fun _ _ _ h => h) (fun _ _ _ => Iff.rfl) (Or.inl ⟨by rfl, fun w hSw => ?_⟩) ?_
      rotate_left
      · skip
        obtain ⟨s0, s1, s2, s3, s4⟩ := HC.out _ _ hSw.2.head
        first | (go_simp; done) | (go_simp; with_reducible rfl)
      simp only [Nat.reduceAdd, AP]
    refine anyG_done (by kernel_rfl) (fun w3 hS _ => ?_) _
    obtain ⟨hpS, hS⟩ := hS
    clear HG
    have PT := Lib.hid (PT.out.pure hpS)
    clear hS hpS
    go_wp2
    go_ret
    exact ⟨rfl, PT.out⟩
  · have hB2 : hmayB k = false := by simpa using hB
    rw [hB2] at hmay
    rw [if_neg hB] at hpv
    rw [hpv]
    have HM := Lib.hid hmay
    clear hmay hpv hB hB2
    go_enter Try.func17, Try.ntmps17
    go_wp2_with (refine wpList_boxV rfl 23 _ rfl C rfl ?_)
    intro g1 w1 e1 c1 t1 s1
    have lg1 : w.heap.size ≤ g1 := by omega
    clear e1 s1
    have D1 := Lib.hid c1; have PT := Lib.hid t1
    clear c1 t1
    have R1 := range_of_row D1.out
    go_wp2_with (refine wpList_load_mid rfl 23 _ rfl g1 0 rfl C _ R1 Try.underlying23 rfl HCI.out ?_)
    clear R1
    refine (HM.out _).mono ?_
    rintro e w2 ⟨rfl, t2⟩
    have PT := Lib.hid (PT.out.pure t2)
    clear t2
    go_wp2
    go_ret
    exact ⟨rfl, PT.out⟩
end Go.Proofs.Ytcfbmbhkdicpfaa
