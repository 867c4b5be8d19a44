/- Chapter 10: is a leaf in? (the program's CheckInclusion) -/
import Derived.Test.YtjbigghjbcjelaaUp
namespace Go.Proofs.Ytjbigghjbcjelaa
open Go.RowKit

/-- What the program answers where the numbers may be. -/
def chkV (leaf : List UInt8) (i size : Nat) (hs : List (List UInt8)) (root : List UInt8) : Int :=
  if ((upV size hs false (leafV leaf) i).1 == root) = true ∧ (!(upV size hs false (leafV leaf) i).2.2 && (upV size hs false (leafV leaf) i).2.1.isEmpty) = true then 0 else 1001

set_option maxHeartbeats 1000000 in
theorem CheckInclusion_ok (w : World) (leaf : List UInt8) (i size : Nat) (v : Value) (hs : List (List UInt8)) (root : List UInt8) (hl : leaf.length ≤ 140737488351232) (h1 : 1 ≤ size) (h2 : size ≤ 256) (hi : i < size) (hp : Hashs w v hs) (hpl : hs.length ≤ 4398046510976) (hr : root.length = 32) :
    Calls Try.prog 29 #[.string (bstr leaf), .int .i64 (i : Int), .int .i64 (size : Int), v, hv root] w fun e w' => e = .returned (.int .i64 (chkV leaf i size hs root)) ∧ Pure w w' := by
  obtain ⟨X, hXl, HZ⟩ := ex28
  have HP := Lib.hid hp
  obtain ⟨ao, cap, rfl, _, _, _⟩ := hp
  obtain ⟨n, hn⟩ : ∃ n, n = hs.length := ⟨_, rfl⟩
  rw [← hn] at HP hpl ⊢
  have HN := Lib.hid hn; clear hn
  have b1 : decide ((size : Int) < 1) = false := decide_eq_false (by omega)
  have b2 : decide ((256 : Int) < size) = false := decide_eq_false (by omega)
  have b3 : decide ((i : Int) < 0) = false := decide_eq_false (by omega)
  have b4 : decide ((size : Int) ≤ i) = false := decide_eq_false (by omega)
  have b1n : decide (size < 1) = false := decide_eq_false (by omega)
  have b2n : decide (256 < size) = false := decide_eq_false (by omega)
  have b4n : decide (size ≤ i) = false := decide_eq_false (by omega)
  have b1z : decide (size = 0) = false := decide_eq_false (by omega)
  have hok := upV_ok size hs false (leafV leaf) i (leafV_length leaf) (by obtain ⟨_, _, _, _, _, h4⟩ := HP.out; exact h4)
  obtain ⟨r, hrr⟩ : ∃ r, r = upV size hs false (leafV leaf) i := ⟨_, rfl⟩
  rw [← hrr] at hok
  have HRR := Lib.hid hrr; clear hrr
  have HOK := Lib.hid hok; have hR1 := hok.1; clear hok
  have hC : chkV leaf i size hs root = if (r.1 == root) = true ∧ (!r.2.2 && r.2.1.isEmpty) = true then 0 else 1001 := by rw [chkV, ← HRR.out]
  have HC := Lib.hid hC; clear hC
  go_enter Try.func29, Try.ntmps29
  go_wp2_with (refine wpList_boxV rfl 28 _ rfl (u8s root) rfl ?_)
  intro g9 w1 e1 c1 t1 s1
  have l9 : w.heap.size ≤ g9 := by omega
  clear e1
  have D9 := Lib.hid c1; have P1 := Lib.hid t1
  clear c1 t1
  go_upto_region 4 with fail
  have hat : (w1.alloc (.cells #[.slice ao n cap, .bool false] 74)).heap[g9 + 1]? = some (.cells #[.slice ao n cap, .bool false] 74 (0, 0)) := by
    have := heap_alloc_new w1 (.cells #[.slice ao n cap, .bool false] 74)
    rwa [s1] at this
  have ta : Pure w1 (w1.alloc (.cells #[.slice ao n cap, .bool false] 74)) := (Turn.refl _ _).alloc _
  have HW2 : Hid (WalkAt (w1.alloc (.cells #[.slice ao n cap, .bool false] 74)) (g9 + 1) (.slice ao n cap) hs false) := Lib.hid ⟨hat, (HP.out.turn P1.out (fun _ _ _ e => e)).turn ta (fun _ _ _ e => e), fun hne e => by have := HP.out.lt hne _ e; omega⟩
  have D2 := Lib.hid (ta.obj D9.out (fun e => e)); have P2 := Lib.hid (P1.out.pure ta)
  clear hat ta D9 P1
  generalize w1.alloc (.cells #[.slice ao n cap, .bool false] 74) = w2 at *
  obtain ⟨g, hg⟩ : ∃ g, g = g9 + 1 := ⟨_, rfl⟩
  rw [← hg] at HW2 ⊢
  have lg : g9 < g := by omega
  clear s1 hg
  go_wp2_with fail
  refine (Leaf_any _ leaf hl).mono ?_
  rintro e w3 ⟨rfl, t3⟩
  have HW3 : Hid (WalkAt w3 g (.slice ao n cap) hs false) := Lib.hid ⟨t3.obj HW2.out.at_ (fun e => e), HW2.out.row.turn t3 (fun _ _ _ e => e), HW2.out.ne⟩
  have D3 := Lib.hid (t3.obj D2.out (fun e => e)); have P3 := Lib.hid (P2.out.pure t3)
  clear t3 HW2 D2 P2
  go_wp2_with fail
  refine (up_any size h1 (by omega) w3 g _ hs false (leafV leaf) i HW3.out (leafV_length leaf) (by omega) (by have := HN.out; omega)).mono ?_
  rintro e w4 ⟨v4, rfl, h4, _, t4⟩
  rw [← HRR.out] at h4 ⊢
  have HW4 := Lib.hid h4; have D4 := Lib.hid (t4.obj D3.out (by omega)); have P4 := Lib.hid (P3.out.trans t4 fun q hq e => by omega : Pure w w4)
  clear h4 t4 HW3 D3 P3
  go_wp2_with (refine wpList_allocZ rfl 28 rfl X HZ.out ?_)
  intro gx w5 e5 c5 t5 s5
  have lgx : g < gx := by have := (Array.getElem?_eq_some_iff.1 HW4.out.at_).1; omega
  have HW5 : Hid (WalkAt w5 g v4 r.2.1 r.2.2) := Lib.hid ⟨t5.obj HW4.out.at_ (fun e => e), HW4.out.row.turn t5 (fun _ _ _ e => e), HW4.out.ne⟩
  have U4 : Hid (r.2.1 ≠ [] → ∀ q, v4.ownBlock = some q → q < gx) := Lib.hid fun hne q hq => by have := HW4.out.row.lt hne q hq; omega
  have D5 := Lib.hid (t5.obj D4.out (fun e => e)); have P5 := Lib.hid (P4.out.pure t5)
  clear e5 t5 HW4 D4 P4 s5
  go_wp2_with (refine wpList_store_blk rfl 28 _ _ rfl gx _ (u8s r.1) _ rfl rfl c5 (size28 hXl hR1) (info28_l hR1) (u8s_one _) ?_)
  intro w6 c6 t6 _
  have HW6 : Hid (WalkAt w6 g v4 r.2.1 r.2.2) := Lib.hid ⟨t6.obj HW5.out.at_ (by omega), HW5.out.row.turn t6 (fun hne q hq e => by have := U4.out hne q hq; omega), HW5.out.ne⟩
  have D6 := Lib.hid (t6.obj D5.out (by omega)); have X6 := Lib.hid c6; have P6 := Lib.hid (P5.out.trans t6 fun q hq e => by have := P5.out.size; omega : Pure w w6)
  clear c5 c6 t6 HW5 D5 P5
  have HI1 := Lib.hid (info28_a hR1); have HI2 := Lib.hid (info28_a hr)
  cases hB : (r.1 == root) with
  | true =>
    have nq : ∀ V : World, (binOp .neq 28 (hv r.1) (hv root)).run Try.prog V = .ok (.bool false) V := fun V => by rw [neq28 V hR1 hr, hB]; rfl
    have HB := Lib.hid hB; clear hB
    cases hJ : (!r.2.2 && r.2.1.isEmpty) with
    | true =>
      have HJ := Lib.hid hJ; clear hJ
      go_wp2_with (first | (refine wpList_load_row rfl 28 _ rfl gx rfl _ (u8s r.1).toArray _ _ X6.out Try.underlying28 rfl HI1.out ?_) | (refine wpList_load_row rfl 28 _ rfl g9 rfl _ (u8s root).toArray _ _ D6.out Try.underlying28 rfl HI2.out ?_) | (go_at_call 51; refine (just_any _ g v4 r.2.1 r.2.2 HW6.out).mono ?_; rintro e w7 ⟨rfl, rfl⟩; rw [HJ.out]))
      go_ret
      exact ⟨by rw [HC.out, HB.out, HJ.out]; rfl, P6.out⟩
    | false =>
      have HJ := Lib.hid hJ; clear hJ
      go_wp2_with (first | (refine wpList_load_row rfl 28 _ rfl gx rfl _ (u8s r.1).toArray _ _ X6.out Try.underlying28 rfl HI1.out ?_) | (refine wpList_load_row rfl 28 _ rfl g9 rfl _ (u8s root).toArray _ _ D6.out Try.underlying28 rfl HI2.out ?_) | (go_at_call 51; refine (just_any _ g v4 r.2.1 r.2.2 HW6.out).mono ?_; rintro e w7 ⟨rfl, rfl⟩; rw [HJ.out]))
      go_ret
      exact ⟨by rw [HC.out, HB.out, HJ.out]; rfl, P6.out⟩
  | false =>
    have nq : ∀ V : World, (binOp .neq 28 (hv r.1) (hv root)).run Try.prog V = .ok (.bool true) V := fun V => by rw [neq28 V hR1 hr, hB]; rfl
    have HB := Lib.hid hB; clear hB
    go_wp2_with (first | (refine wpList_load_row rfl 28 _ rfl gx rfl _ (u8s r.1).toArray _ _ X6.out Try.underlying28 rfl HI1.out ?_) | (refine wpList_load_row rfl 28 _ rfl g9 rfl _ (u8s root).toArray _ _ D6.out Try.underlying28 rfl HI2.out ?_))
    go_ret
    exact ⟨by rw [HC.out, HB.out]; rfl, P6.out⟩

set_option maxHeartbeats 1000000 in
theorem CheckInclusion_bad (w : World) (leaf : List UInt8) (i size : Int) (v : Value) (root : List UInt8) (hbad : ¬ (1 ≤ size ∧ size ≤ 256 ∧ 0 ≤ i ∧ i < size)) :
    Calls Try.prog 29 #[.string (bstr leaf), .int .i64 i, .int .i64 size, v, hv root] w fun e w' => e = .returned (.int .i64 1000) ∧ Pure w w' := by
  by_cases h1 : size < 1
  · have b1 : decide (size < 1) = true := decide_eq_true h1
    go_enter Try.func29, Try.ntmps29
    go_wp2_with (refine wpList_boxV rfl 28 _ rfl (u8s root) rfl ?_)
    intro g9 w1 e1 c1 t1 s1
    have P1 := Lib.hid t1
    clear e1 c1 t1 s1
    go_wp2
    go_ret
    exact ⟨rfl, P1.out⟩
  · have b1 : decide (size < 1) = false := decide_eq_false h1
    by_cases h2 : 256 < size
    · have b2 : decide (256 < size) = true := decide_eq_true h2
      go_enter Try.func29, Try.ntmps29
      go_wp2_with (refine wpList_boxV rfl 28 _ rfl (u8s root) rfl ?_)
      intro g9 w1 e1 c1 t1 s1
      have P1 := Lib.hid t1
      clear e1 c1 t1 s1
      go_wp2
      go_ret
      exact ⟨rfl, P1.out⟩
    · have b2 : decide (256 < size) = false := decide_eq_false h2
      by_cases h3 : i < 0
      · have b3 : decide (i < 0) = true := decide_eq_true h3
        go_enter Try.func29, Try.ntmps29
        go_wp2_with (refine wpList_boxV rfl 28 _ rfl (u8s root) rfl ?_)
        intro g9 w1 e1 c1 t1 s1
        have P1 := Lib.hid t1
        clear e1 c1 t1 s1
        go_wp2
        go_ret
        exact ⟨rfl, P1.out⟩
      · have b3 : decide (i < 0) = false := decide_eq_false h3
        have h4 : size ≤ i := by omega
        have b4 : decide (size ≤ i) = true := decide_eq_true h4
        clear hbad
        go_enter Try.func29, Try.ntmps29
        go_wp2_with (refine wpList_boxV rfl 28 _ rfl (u8s root) rfl ?_)
        intro g9 w1 e1 c1 t1 s1
        have P1 := Lib.hid t1
        clear e1 c1 t1 s1
        go_wp2
        go_ret
        exact ⟨rfl, P1.out⟩
end Go.Proofs.Ytjbigghjbcjelaa
