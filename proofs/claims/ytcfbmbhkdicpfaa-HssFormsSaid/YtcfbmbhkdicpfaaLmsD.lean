/- Chapter 5: keys and signatures taken apart. -/
import Derived.Test.YtcfbmbhkdicpfaaLms5
import Derived.LoopIn
import Derived.LoopNIn
import Derived.OwnWalkIn
import Derived.RangeFuncBound
import Derived.RangeFuncCalls
import Derived.RangeFuncLeaves
import Derived.RangeFuncNested
import Derived.RangeFuncRecord
import Derived.Shelf.Abstract
import Derived.TacticsInMore
namespace Go.Proofs.Ytcfbmbhkdicpfaa
open Go.RowKit

/-- Four bytes as a number. -/
def n4 (s : List UInt8) : Nat := numB (s.take 4)
theorem n4_lt (s : List UInt8) : n4 s < 4294967296 := by
  have h := numB_lt (s.take 4)
  have h2 : (s.take 4).length ≤ 4 := by simp; omega
  have h3 : 256 ^ (s.take 4).length ≤ 256 ^ 4 := Nat.pow_le_pow_right (by decide) h2
  have h4 : (256 : Nat) ^ 4 = 4294967296 := by decide
  unfold n4; omega
theorem k4V_n4 {s : List UInt8} (h : 4 ≤ s.length) : k4V s = (n4 s : Int) := by
  obtain ⟨a, b, c, d, t, rfl⟩ : ∃ a b c d t, s = a :: b :: c :: d :: t := by
    match s, h with
    | a :: b :: c :: d :: t, _ => exact ⟨a, b, c, d, t, rfl⟩
  have ha := a.toNat_lt; have hb := b.toNat_lt; have hc := c.toNat_lt; have hd := d.toNat_lt
  have e : n4 (a :: b :: c :: d :: t) = ((a.toNat * 256 + b.toNat) * 256 + c.toNat) * 256 + d.toNat := by simp [n4, numB]
  have j1 : bits .or .i64 ((a.toNat : Int) * 16777216) ((b.toNat : Int) * 65536) = (a.toNat : Int) * 16777216 + (b.toNat : Int) * 65536 := by
    refine bits_join .i64 62 (by decide) (fun n a c => ?_) 24 _ _ (by omega) (by omega) (by omega) (by omega) (by omega) (by omega)
    rw [IntKind.wrap_i64]; omega
  have j2 : bits .or .i64 ((a.toNat : Int) * 16777216 + (b.toNat : Int) * 65536) ((c.toNat : Int) * 256) = (a.toNat : Int) * 16777216 + (b.toNat : Int) * 65536 + (c.toNat : Int) * 256 := by
    refine bits_join .i64 62 (by decide) (fun n a c => ?_) 16 _ _ (by omega) (by omega) (by omega) (by omega) (by omega) (by omega)
    rw [IntKind.wrap_i64]; omega
  have j3 : bits .or .i64 ((a.toNat : Int) * 16777216 + (b.toNat : Int) * 65536 + (c.toNat : Int) * 256) (d.toNat : Int) = (a.toNat : Int) * 16777216 + (b.toNat : Int) * 65536 + (c.toNat : Int) * 256 + d.toNat := by
    refine bits_join .i64 62 (by decide) (fun n a c => ?_) 8 _ _ (by omega) (by omega) (by omega) (by omega) (by omega) (by omega)
    rw [IntKind.wrap_i64]; omega
  rw [e]
  show bits .or .i64 (bits .or .i64 (bits .or .i64 ((a.toNat : Int) * 16777216) ((b.toNat : Int) * 65536)) ((c.toNat : Int) * 256)) (d.toNat : Int) = _
  rw [j1, j2, j3]
  omega
theorem rd4 {s : List UInt8} (h : 4 ≤ s.length) : rdNum s 4 = ((n4 s : Int), 0, s.drop 4) := by
  have h4 : (4 : Int).toNat = 4 := rfl
  rw [rdNum, if_pos (by rfl), h4, if_pos h]
  rfl
theorem RNum4 {W : World} {g : Nat} {s : List UInt8} (h4 : 4 ≤ s.length) (h : IsRd 177 W g s) : Calls Try.prog 60 #[.pointer (some ⟨g, 0, none⟩), .int .i64 4] W fun e w' =>
    e = .returned (.tuple #[.int .i64 (n4 s : Int), .int .i64 0]) ∧ Read 177 W w' g (s.drop 4) := by
  have := RNum_any W g s 4 h
  rwa [rd4 h4] at this
def PKey0 : PKey := ⟨0, 0, [], []⟩
theorem zeroPK : (Try.prog.info? 88).bind (·.zero) = some (.agg (pkC PKey0).toArray) := by kernel_rfl
theorem infoPK : (Try.prog.info? 88).map (·.size) = some 4 := by kernel_rfl
theorem pkC_one (k : PKey) : ∀ v ∈ pkC k, v.oneCell' = true := by
  intro v hv
  simp only [pkC, List.mem_cons, List.mem_nil_iff, or_false] at hv
  rcases hv with rfl | rfl | rfl | rfl <;> rfl
/-- A public key taken apart; false: it is none. -/
def apartV (s : List UInt8) : PKey × Bool :=
  if s.length = 56 then (⟨hgtV (n4 s), (n4 (s.drop 4) : Int), (s.drop 8).take 16, s.drop 24⟩, decide (hgtV (n4 s) ≠ 0) && kindB (n4 (s.drop 4))) else (PKey0, false)

set_option maxRecDepth 100000 in
set_option maxHeartbeats 4000000 in
theorem Apart_any (w : World) (s : List UInt8) (hs : s.length ≤ 4611686018427387904) : Calls Try.prog 48 #[.string (bstr s)] w fun e w' => e = .returned (.tuple #[.agg (pkC (apartV s).1).toArray, .bool (apartV s).2]) ∧ Pure w w' := by
  have zs := bstr_size s
  by_cases h56 : s.length = 56
  · rw [apartV, if_pos h56]
    rw [h56] at zs
    have w24 : IntKind.i64.wrap 24 = 24 := rfl
    have ho := fun W => Open_any W s (by omega)
    have hr1 := fun W g (h : IsRd 177 W g s) => RNum4 (by omega) h
    have hr2 := fun W g (h : IsRd 177 W g (s.drop 4)) => RNum4 (by rw [List.length_drop]; omega) h
    have hsz := fun W => Size_any W (n4 (s.drop 4))
    have hhg := fun W => heightOf_any W (n4 s)
    obtain ⟨ID, hID⟩ : ∃ ID, ID = (s.drop 8).take 16 := ⟨_, rfl⟩
    obtain ⟨RT, hRT⟩ : ∃ RT, RT = s.drop 24 := ⟨_, rfl⟩
    have ex1 : (bstr s).extract 8 24 = bstr ID := by rw [bstr_ext, hID, List.drop_take]
    have ex2 : (bstr s).extract 24 56 = bstr RT := by rw [bstr_ext, hRT, List.take_of_length_le (by omega)]
    rw [← hID, ← hRT]
    generalize s.drop 4 = s4 at *
    generalize n4 s = t at *
    generalize n4 s4 = kd at *
    generalize hgtV (t : Int) = H at *
    obtain ⟨I1, hI1⟩ : ∃ I1, I1 = decide (H ≠ 0) := ⟨_, rfl⟩
    rw [← hI1] at hhg ⊢
    generalize kindB (kd : Int) = I2 at *
    generalize ((36 + 32 * (parV (kd : Int)).2.1 : Nat) : Int) = SZ at *
    have HO := Lib.hid ho; have HR1 := Lib.hid hr1; have HR2 := Lib.hid hr2; have HSZ := Lib.hid hsz; have HHG := Lib.hid hhg
    clear ho hr1 hr2 hsz hhg hID hRT hI1 h56
    cases I1 with
    | false =>
      go_enter Try.func48, Try.ntmps48
      go_wp2_with (refine wpList_allocZ rfl 88 rfl _ zeroPK ?_)
      intro g2 w1 e1 c1 t1 s1
      have l2 : w.heap.size ≤ g2 := by omega
      clear e1 s1
      have D2 := Lib.hid c1; have PT := Lib.hid t1
      clear c1 t1
      have lg : w.heap.size ≤ w1.heap.size := PT.out.size
      go_wp2_with fail
      refine (HO.out _).mono ?_
      rintro e w2 ⟨rfl, r2, t2⟩
      have n2 : g2 ≠ w1.heap.size := by have := (Array.getElem?_eq_some_iff.1 D2.out).1; omega
      have D2 := Lib.hid (t2.obj D2.out (fun e => e)); have PT := Lib.hid (PT.out.pure t2); have HR := Lib.hid r2
      generalize w1.heap.size = gr at *
      clear t2 r2
      go_wp2_with fail
      refine (HR1.out _ _ HR.out).mono ?_
      rintro e w3 ⟨rfl, r3⟩
      have D2 := Lib.hid (r3.turn.obj D2.out n2); have PT := Lib.hid (PT.out.trans r3.turn fun q hq e => by omega : Pure w w3); have HR := Lib.hid r3.rd
      clear r3
      go_wp2_with fail
      refine (HR2.out _ _ HR.out).mono ?_
      rintro e w4 ⟨rfl, r4⟩
      have D2 := Lib.hid (r4.turn.obj D2.out n2); have PT := Lib.hid (PT.out.trans r4.turn fun q hq e => by omega : Pure w w4)
      clear r4 HR
      go_wp2_with fail
      refine (HHG.out _).mono ?_
      rintro e w5 ⟨rfl, rfl⟩
      go_wp2_with fail
      refine (HSZ.out _).mono ?_
      rintro e w6 ⟨rfl, t6⟩
      have D2 := Lib.hid (t6.obj D2.out (fun e => e)); have PT := Lib.hid (PT.out.pure t6)
      clear t6
      go_wp2_with fail
      refine wp_region_G (S := fun w' => Turn (fun k => k = g2) w6 w' ∧ Held [] w') (T := StoreAt 16 g2 (Obj.cells (pkC PKey0).toArray 88 (0, 0)) (Obj.cells (pkC ⟨H, (kd : Int), ID, RT⟩).toArray 88 (0, 0))) (by kernel_rfl) ⟨(Turn.refl _ _).drew, held_nil _⟩ (show w6.drew.heap[g2]? = _ from D2.out) ?_
      have HG := Grow.store w6 [] 16 g2 (Obj.cells (pkC PKey0).toArray 88 (0, 0)) (Obj.cells (pkC ⟨H, (kd : Int), ID, RT⟩).toArray 88 (0, 0))
      refine atN 0 ?_
      iterate 11
        refine anyG_y HG (v := ?_) rfl (by kernel_rfl) (fun _ _ _ h => h) (StoreAt.ins (by decide)) (Or.inl ⟨by rfl, fun w hSw => ?_⟩) ?_
        rotate_left
        · skip
          first | (go_simp; done) | (go_simp; with_reducible rfl)
        simp only [Nat.reduceAdd, AP]
      refine anyG_take HG (i := 12) (v := ?_) rfl (by kernel_rfl) (by kernel_rfl) (by kernel_rfl) (fun _ _ _ h => h) (StoreAt.ins (by decide)) (Or.inl ⟨by rfl, fun w hSw => ?_⟩) ?_
      rotate_left
      · skip
        first | (go_simp; done) | (go_simp; with_reducible rfl)
      simp only [AP]
      refine anyG_take HG (i := 13) (v := ?_) rfl (by kernel_rfl) (by kernel_rfl) (by kernel_rfl) (fun _ _ _ h => h) (StoreAt.ins (by decide)) (Or.inl ⟨by rfl, fun w hSw => ?_⟩) ?_
      rotate_left
      · skip
        first | (go_simp; done) | (go_simp; with_reducible rfl)
      simp only [AP]
      refine anyG_take HG (i := 14) (v := undef) rfl (by kernel_rfl) (by kernel_rfl) (by kernel_rfl) (fun _ _ _ h => h) (StoreAt.ins (by decide)) (Or.inr ⟨by rfl, rfl⟩) ?_
      simp only [AP]
      refine anyG_take HG (i := 15) (v := ?_) rfl (by kernel_rfl) (by kernel_rfl) (by kernel_rfl) (fun _ _ _ h => h) (StoreAt.ins (by decide)) (Or.inl ⟨by rfl, fun w hSw => ?_⟩) ?_
      rotate_left
      · skip
        first | (go_simp; done) | (go_simp; with_reducible rfl)
      simp only [AP]
      refine anyG_take HG (i := 11) (v := ?_) rfl (by kernel_rfl) (by kernel_rfl) (by kernel_rfl) (fun _ _ _ h => h) (StoreAt.ins (by decide)) (Or.inl ⟨by rfl, fun w hSw => ?_⟩) ?_
      rotate_left
      · skip
        first | (go_simp; done) | (go_simp; with_reducible rfl)
      simp only [AP]
      refine anyG_store (i := 16) (by kernel_rfl) rfl rfl rfl rfl rfl rfl infoPK (pkC_one _) (fun p hp => nomatch hp) ?_
      simp only [Act.put]
      refine anyG_take HG (i := 17) (v := ?_) rfl (by kernel_rfl) (by kernel_rfl) (by kernel_rfl) (fun _ _ _ h => h) (StoreAt.ins (by decide)) (Or.inl ⟨by rfl, fun w hSw => ?_⟩) ?_
      rotate_left
      · skip
        first | (go_simp; done) | (go_simp; with_reducible rfl)
      simp only [AP]
      refine anyG_done (by kernel_rfl) (fun w8 hS hT => ?_) _
      obtain ⟨hpS, hS⟩ := hS
      clear HG
      have PT := Lib.hid (PT.out.trans hpS fun q hq e => by omega)
      have D2 := Lib.hid (show w8.heap[g2]? = _ from hT)
      clear hS hT hpS
      go_wp2
      exact bodyPost_ret (v := .tuple #[.agg (pkC ⟨H, (kd : Int), ID, RT⟩).toArray, .bool false]) (results_cell2 Try.results48 _ _ g2 _ _ _ _ rfl D2.out Try.underlying88 rfl infoPK) rfl ⟨rfl, PT.out⟩
    | true =>
      go_enter Try.func48, Try.ntmps48
      go_wp2_with (refine wpList_allocZ rfl 88 rfl _ zeroPK ?_)
      intro g2 w1 e1 c1 t1 s1
      have l2 : w.heap.size ≤ g2 := by omega
      clear e1 s1
      have D2 := Lib.hid c1; have PT := Lib.hid t1
      clear c1 t1
      have lg : w.heap.size ≤ w1.heap.size := PT.out.size
      go_wp2_with fail
      refine (HO.out _).mono ?_
      rintro e w2 ⟨rfl, r2, t2⟩
      have n2 : g2 ≠ w1.heap.size := by have := (Array.getElem?_eq_some_iff.1 D2.out).1; omega
      have D2 := Lib.hid (t2.obj D2.out (fun e => e)); have PT := Lib.hid (PT.out.pure t2); have HR := Lib.hid r2
      generalize w1.heap.size = gr at *
      clear t2 r2
      go_wp2_with fail
      refine (HR1.out _ _ HR.out).mono ?_
      rintro e w3 ⟨rfl, r3⟩
      have D2 := Lib.hid (r3.turn.obj D2.out n2); have PT := Lib.hid (PT.out.trans r3.turn fun q hq e => by omega : Pure w w3); have HR := Lib.hid r3.rd
      clear r3
      go_wp2_with fail
      refine (HR2.out _ _ HR.out).mono ?_
      rintro e w4 ⟨rfl, r4⟩
      have D2 := Lib.hid (r4.turn.obj D2.out n2); have PT := Lib.hid (PT.out.trans r4.turn fun q hq e => by omega : Pure w w4)
      clear r4 HR
      go_wp2_with fail
      refine (HHG.out _).mono ?_
      rintro e w5 ⟨rfl, rfl⟩
      go_wp2_with fail
      refine (HSZ.out _).mono ?_
      rintro e w6 ⟨rfl, t6⟩
      have D2 := Lib.hid (t6.obj D2.out (fun e => e)); have PT := Lib.hid (PT.out.pure t6)
      clear t6
      go_wp2_with fail
      refine wp_region_G (S := fun w' => Turn (fun k => k = g2) w6 w' ∧ Held [] w') (T := StoreAt 16 g2 (Obj.cells (pkC PKey0).toArray 88 (0, 0)) (Obj.cells (pkC ⟨H, (kd : Int), ID, RT⟩).toArray 88 (0, 0))) (by kernel_rfl) ⟨(Turn.refl _ _).drew, held_nil _⟩ (show w6.drew.heap[g2]? = _ from D2.out) ?_
      have HG := Grow.store w6 [] 16 g2 (Obj.cells (pkC PKey0).toArray 88 (0, 0)) (Obj.cells (pkC ⟨H, (kd : Int), ID, RT⟩).toArray 88 (0, 0))
      refine atN 0 ?_
      iterate 11
        refine anyG_y HG (v := ?_) rfl (by kernel_rfl) (fun _ _ _ h => h) (StoreAt.ins (by decide)) (Or.inl ⟨by rfl, fun w hSw => ?_⟩) ?_
        rotate_left
        · skip
          first | (go_simp; done) | (go_simp; with_reducible rfl)
        simp only [Nat.reduceAdd, AP]
      refine anyG_take HG (i := 12) (v := ?_) rfl (by kernel_rfl) (by kernel_rfl) (by kernel_rfl) (fun _ _ _ h => h) (StoreAt.ins (by decide)) (Or.inl ⟨by rfl, fun w hSw => ?_⟩) ?_
      rotate_left
      · skip
        first | (go_simp; done) | (go_simp; with_reducible rfl)
      simp only [AP]
      refine anyG_take HG (i := 13) (v := ?_) rfl (by kernel_rfl) (by kernel_rfl) (by kernel_rfl) (fun _ _ _ h => h) (StoreAt.ins (by decide)) (Or.inl ⟨by rfl, fun w hSw => ?_⟩) ?_
      rotate_left
      · skip
        first | (go_simp; done) | (go_simp; with_reducible rfl)
      simp only [AP]
      refine anyG_take HG (i := 14) (v := ?_) rfl (by kernel_rfl) (by kernel_rfl) (by kernel_rfl) (fun _ _ _ h => h) (StoreAt.ins (by decide)) (Or.inl ⟨by rfl, fun w hSw => ?_⟩) ?_
      rotate_left
      · skip
        first | (go_simp; done) | (go_simp; with_reducible rfl)
      simp only [AP]
      refine anyG_take HG (i := 15) (v := ?_) rfl (by kernel_rfl) (by kernel_rfl) (by kernel_rfl) (fun _ _ _ h => h) (StoreAt.ins (by decide)) (Or.inl ⟨by rfl, fun w hSw => ?_⟩) ?_
      rotate_left
      · skip
        first | (go_simp; done) | (go_simp; with_reducible rfl)
      simp only [AP]
      refine anyG_take HG (i := 11) (v := ?_) rfl (by kernel_rfl) (by kernel_rfl) (by kernel_rfl) (fun _ _ _ h => h) (StoreAt.ins (by decide)) (Or.inl ⟨by rfl, fun w hSw => ?_⟩) ?_
      rotate_left
      · skip
        first | (go_simp; done) | (go_simp; with_reducible rfl)
      simp only [AP]
      refine anyG_store (i := 16) (by kernel_rfl) rfl rfl rfl rfl rfl rfl infoPK (pkC_one _) (fun p hp => nomatch hp) ?_
      simp only [Act.put]
      refine anyG_take HG (i := 17) (v := ?_) rfl (by kernel_rfl) (by kernel_rfl) (by kernel_rfl) (fun _ _ _ h => h) (StoreAt.ins (by decide)) (Or.inl ⟨by rfl, fun w hSw => ?_⟩) ?_
      rotate_left
      · skip
        first | (go_simp; done) | (go_simp; with_reducible rfl)
      simp only [AP]
      refine anyG_done (by kernel_rfl) (fun w8 hS hT => ?_) _
      obtain ⟨hpS, hS⟩ := hS
      clear HG
      have PT := Lib.hid (PT.out.trans hpS fun q hq e => by omega)
      have D2 := Lib.hid (show w8.heap[g2]? = _ from hT)
      clear hS hT hpS
      go_wp2
      exact bodyPost_ret (v := .tuple #[.agg (pkC ⟨H, (kd : Int), ID, RT⟩).toArray, .bool I2]) (results_cell2 Try.results48 _ _ g2 _ _ _ _ rfl D2.out Try.underlying88 rfl infoPK) rfl ⟨by simp, PT.out⟩
  · rw [apartV, if_neg h56]
    have q1 : ((s.length : Int) != 56) = true := by simp; omega
    have q1n : (s.length != 56) = true := by simp; omega
    obtain ⟨n, hn⟩ : ∃ n, n = s.length := ⟨_, rfl⟩
    rw [← hn] at zs q1 q1n
    clear h56 hs hn
    go_enter Try.func48, Try.ntmps48
    go_wp2_with (refine wpList_allocZ rfl 88 rfl _ zeroPK ?_)
    intro g2 w1 e1 c1 t1 s1
    have l2 : w.heap.size ≤ g2 := by omega
    clear e1 s1
    have D2 := Lib.hid c1; have PT := Lib.hid t1
    clear c1 t1
    go_wp2_with (refine wpList_store_blk rfl 88 _ _ rfl g2 _ (pkC PKey0) _ rfl rfl D2.out rfl infoPK (pkC_one _) ?_)
    intro w8 d8 t8 _
    have D2 := Lib.hid d8; have PT := Lib.hid (PT.out.trans t8 fun q hq e => by omega : Pure w w8)
    clear d8 t8
    go_wp2
    exact bodyPost_ret (v := .tuple #[.agg (pkC PKey0).toArray, .bool false]) (results_cell2 Try.results48 _ _ g2 _ _ _ _ rfl D2.out Try.underlying88 rfl infoPK) rfl ⟨rfl, PT.out⟩
end Go.Proofs.Ytcfbmbhkdicpfaa
