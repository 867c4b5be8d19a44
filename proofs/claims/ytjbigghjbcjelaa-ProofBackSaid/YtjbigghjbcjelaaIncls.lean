/- The laws Inclusions, Consistents: any leaves and places, any path. -/
import Derived.Test.YtjbigghjbcjelaaAwake10
namespace Go.Proofs.Ytjbigghjbcjelaa
open Go.RowKit

theorem Num9_pure (w : World) (x : Int) : Calls Try.prog 25 #[.int .i64 x] w fun e w' => e = .returned (.int .i64 x) ∧ Pure w w' := by
  refine (Num9_any w x).mono ?_
  rintro e w' ⟨h, rfl⟩
  exact ⟨h, Turn.refl _ _⟩
/-- What CheckInclusion answers. -/
def chkI (leaf : List UInt8) (i size : Int) (hs : List (List UInt8)) (root : List UInt8) : Int :=
  if 1 ≤ size ∧ size ≤ 256 ∧ 0 ≤ i ∧ i < size then chkV leaf i.toNat size.toNat hs root else 1000
theorem CheckInclusion_any (w : World) (leaf : List UInt8) (i size : Int) (v : Value) (hs : List (List UInt8)) (root : List UInt8) (hl : leaf.length ≤ 140737488351232) (hp : Hashs w v hs) (hpl : hs.length ≤ 4398046510976) (hr : root.length = 32) :
    Calls Try.prog 29 #[.string (bstr leaf), .int .i64 i, .int .i64 size, v, hv root] w fun e w' => e = .returned (.int .i64 (chkI leaf i size hs root)) ∧ Pure w w' := by
  by_cases h : 1 ≤ size ∧ size ≤ 256 ∧ 0 ≤ i ∧ i < size
  · obtain ⟨a, rfl⟩ : ∃ a : Nat, i = (a : Int) := ⟨i.toNat, by omega⟩
    obtain ⟨s, rfl⟩ : ∃ s : Nat, size = (s : Int) := ⟨size.toNat, by omega⟩
    rw [chkI, if_pos h]
    simp only [Int.toNat_natCast]
    exact CheckInclusion_ok w leaf a s v hs root hl (by omega) (by omega) (by omega) hp hpl hr
  · rw [chkI, if_neg h]
    exact CheckInclusion_bad w leaf i size v root h
theorem RCheckInclusion_any (w : World) (leaf : List UInt8) (i size : Int) (v : Value) (hs : List (List UInt8)) (root : List UInt8) (hl : leaf.length ≤ 140737488351232) (hp : Hashs w v hs) (hpl : hs.length ≤ 4398046510976) (hr : root.length = 32) :
    Calls Try.prog 31 #[.string (bstr leaf), .int .i64 i, .int .i64 size, v, hv root] w fun e w' => e = .returned (.int .i64 (chkI leaf i size hs root)) ∧ Pure w w' := by
  by_cases h : 1 ≤ size ∧ size ≤ 256 ∧ 0 ≤ i ∧ i < size
  · obtain ⟨a, rfl⟩ : ∃ a : Nat, i = (a : Int) := ⟨i.toNat, by omega⟩
    obtain ⟨s, rfl⟩ : ∃ s : Nat, size = (s : Int) := ⟨size.toNat, by omega⟩
    rw [chkI, if_pos h]
    simp only [Int.toNat_natCast]
    exact RCheckInclusion_ok w leaf a s v hs root hl (by omega) (by omega) (by omega) hp hpl hr
  · rw [chkI, if_neg h]
    exact RCheckInclusion_bad w leaf i size v root h
/-- What CheckConsistency answers. -/
def cchkI (m : Int) (old : List UInt8) (size : Int) (root : List UInt8) (p : List (List UInt8)) : Int :=
  if 1 ≤ size ∧ size ≤ 256 ∧ 1 ≤ m ∧ m ≤ size then cchkV m.toNat old size.toNat root p else 1000
theorem CheckConsistency_any (w : World) (m : Int) (old : List UInt8) (size : Int) (root : List UInt8) (v : Value) (p : List (List UInt8)) (hp : Hashs w v p) (hpl : p.length ≤ 4398046510976) (ho : old.length = 32) (hr : root.length = 32) :
    Calls Try.prog 36 #[.int .i64 m, hv old, .int .i64 size, hv root, v] w fun e w' => e = .returned (.int .i64 (cchkI m old size root p)) ∧ Pure w w' := by
  by_cases h : 1 ≤ size ∧ size ≤ 256 ∧ 1 ≤ m ∧ m ≤ size
  · obtain ⟨a, rfl⟩ : ∃ a : Nat, m = (a : Int) := ⟨m.toNat, by omega⟩
    obtain ⟨s, rfl⟩ : ∃ s : Nat, size = (s : Int) := ⟨size.toNat, by omega⟩
    rw [cchkI, if_pos h]
    simp only [Int.toNat_natCast]
    exact CheckConsistency_ok w a old s root v p (by omega) (by omega) (by omega) (by omega) hp hpl ho hr
  · rw [cchkI, if_neg h]
    exact CheckConsistency_bad w m old size root v h
theorem RCheckConsistency_any (w : World) (m : Int) (old : List UInt8) (size : Int) (root : List UInt8) (v : Value) (p : List (List UInt8)) (hp : Hashs w v p) (hpl : p.length ≤ 4398046510976) (ho : old.length = 32) (hr : root.length = 32) :
    Calls Try.prog 37 #[.int .i64 m, hv old, .int .i64 size, hv root, v] w fun e w' => e = .returned (.int .i64 (cchkI m old size root p)) ∧ Pure w w' := by
  by_cases h : 1 ≤ size ∧ size ≤ 256 ∧ 1 ≤ m ∧ m ≤ size
  · obtain ⟨a, rfl⟩ : ∃ a : Nat, m = (a : Int) := ⟨m.toNat, by omega⟩
    obtain ⟨s, rfl⟩ : ∃ s : Nat, size = (s : Int) := ⟨size.toNat, by omega⟩
    rw [cchkI, if_pos h]
    simp only [Int.toNat_natCast]
    exact RCheckConsistency_ok w a old s root v p (by omega) (by omega) (by omega) (by omega) hp hpl ho hr
  · rw [cchkI, if_neg h]
    exact RCheckConsistency_bad w m old size root v h
theorem inclV_ok (ls : List (List UInt8)) (i : Int) : (inclV ls i).length ≤ 4398046510976 ∧ ∀ x ∈ inclV ls i, x.length = 32 := by
  rw [inclV]
  split
  · have := pathV_len ls.length ls i.toNat rfl
    exact ⟨by omega, this.2⟩
  · exact ⟨by simp, fun x hx => by simp at hx⟩
theorem consV_ok (ls : List (List UInt8)) (i : Int) : (consV ls i).length ≤ 4398046510976 ∧ ∀ x ∈ consV ls i, x.length = 32 := by
  rw [consV]
  split
  · have := subV_len ls.length ls i.toNat true rfl
    exact ⟨by omega, this.2⟩
  · exact ⟨by simp, fun x hx => by simp at hx⟩

set_option maxRecDepth 100000 in
set_option maxHeartbeats 2000000 in
theorem Inclusions_true (w : World) (v : Value) (ls : List (List UInt8)) (i : Int) (leaf : List UInt8) (size : Int) (u : Value) (hs : List (List UInt8)) (root : List UInt8) (h : Texts w v ls) (hf : Fits ls) (hl : ls.length ≤ 8796093021952) (hi : -9223372036854775808 ≤ i ∧ i ≤ 9223372036854775807) (hlf : leaf.length ≤ 140737488351232) (hp : Hashs w u hs) (hpl : hs.length ≤ 4398046510976) (hr : root.length = 32) :
    Calls Try.prog 7 #[v, .int .i64 i, .string (bstr leaf), .int .i64 size, u, hv root] w fun e w' => e = .returned (.bool true) ∧ Pure w w' := by
  have hu28 := Try.underlying28
  have hkc := fun W V (hW : Hashs W V hs) => CheckInclusion_any W leaf i size V hs root hlf hW hpl hr
  have hkr := fun W V (hW : Hashs W V hs) => RCheckInclusion_any W leaf i size V hs root hlf hW hpl hr
  generalize chkI leaf i size hs root = G at hkc hkr
  have hic := fun W V (hW : Texts W V ls) => Inclusion_any W V ls i hW hf hl hi
  have hir := fun W V (hW : Texts W V ls) => RInclusion_any W V ls i hW hf hl hi
  have hiv := inclV_ok ls i
  generalize inclE ls i = IE at hic hir
  generalize inclV ls i = IV at hic hir hiv
  obtain ⟨hivl, hiv32⟩ := hiv
  have HKC := Lib.hid hkc; have HKR := Lib.hid hkr; have HIC := Lib.hid hic; have HIR := Lib.hid hir; have H32 := Lib.hid hiv32
  have HL := Lib.hid h; have HP := Lib.hid hp
  clear hkc hkr hic hir hiv32
  obtain ⟨ao, c, rfl, _, _⟩ := h
  obtain ⟨bo, d, rfl, _, _, _⟩ := hp
  obtain ⟨n, hn⟩ : ∃ n, n = ls.length := ⟨_, rfl⟩
  obtain ⟨m, hm⟩ : ∃ m, m = hs.length := ⟨_, rfl⟩
  rw [← hn] at HL ⊢
  rw [← hm] at HP ⊢
  have HN := Lib.hid (And.intro hn hm); clear hn hm
  go_enter Try.func7, Try.ntmps7
  go_wp2_with (refine wpList_boxV rfl 28 _ rfl (u8s root) rfl ?_)
  intro g10 w2 e2 c2 t2 s2
  clear e2
  have D10 := Lib.hid c2; have PT := Lib.hid t2
  clear c2 t2 s2
  have HL := Lib.hid (HL.out.pure PT.out); have HP := Lib.hid (HP.out.pure PT.out)
  go_wp2_with fail
  refine (LendTexts_any _ _ ls HL.out hl).mono ?_
  rintro e w3 ⟨rx, rfl, hx, t3⟩
  have PT := Lib.hid (PT.out.pure t3); have D10 := Lib.hid (t3.obj D10.out (fun e => e)); have HL := Lib.hid (HL.out.pure t3); have HP := Lib.hid (HP.out.pure t3)
  have HX := Lib.hid hx
  obtain ⟨bx, cx, rfl, _, _⟩ := hx
  rw [← HN.out.1] at HX ⊢
  clear t3
  go_wp2_with fail
  refine (LendHashs_any _ _ hs HP.out hpl).mono ?_
  rintro e w4 ⟨ry, rfl, hy, t4⟩
  have PT := Lib.hid (PT.out.pure t4); have D10 := Lib.hid (t4.obj D10.out (fun e => e)); have HL := Lib.hid (HL.out.pure t4); have HP := Lib.hid (HP.out.pure t4); have HX := Lib.hid (HX.out.pure t4)
  have HY := Lib.hid hy
  obtain ⟨by_, cy, rfl, _, _, _⟩ := hy
  rw [← HN.out.2] at HY ⊢
  clear t4
  go_wp2_with fail
  refine (HIC.out _ _ HX.out.texts).mono ?_
  rintro e w5 ⟨r1, rfl, ho1, _, t5⟩
  have PT := Lib.hid (PT.out.pure t5); have D10 := Lib.hid (t5.obj D10.out (fun e => e)); have HL := Lib.hid (HL.out.pure t5); have HP := Lib.hid (HP.out.pure t5); have HX := Lib.hid (HX.out.pure t5); have HY := Lib.hid (HY.out.pure t5)
  have H1 := Lib.hid (Hashs.own ho1 H32.out)
  obtain ⟨ra, rc, rfl, _⟩ := ownsRow_shape ho1
  clear t5 ho1
  go_wp2_with fail
  refine (HIR.out _ _ HL.out).mono ?_
  rintro e w6 ⟨r2, rfl, ho2, _, t6⟩
  have PT := Lib.hid (PT.out.pure t6); have D10 := Lib.hid (t6.obj D10.out (fun e => e)); have HL := Lib.hid (HL.out.pure t6); have HP := Lib.hid (HP.out.pure t6); have HX := Lib.hid (HX.out.pure t6); have HY := Lib.hid (HY.out.pure t6); have H1 := Lib.hid (H1.out.pure t6)
  have H2 := Lib.hid (Hashs.own ho2 H32.out)
  obtain ⟨qa, qc, rfl, _⟩ := ownsRow_shape ho2
  clear t6 ho2
  go_wp2_with (first | (refine wpList_load_row rfl 28 _ rfl g10 rfl _ (u8s root).toArray _ _ D10.out hu28 rfl (info28_a hr) ?_))
  refine (HKC.out _ _ HY.out.hashs).mono ?_
  rintro e w7 ⟨rfl, t7⟩
  have PT := Lib.hid (PT.out.pure t7); have D10 := Lib.hid (t7.obj D10.out (fun e => e)); have HL := Lib.hid (HL.out.pure t7); have HP := Lib.hid (HP.out.pure t7); have HX := Lib.hid (HX.out.pure t7); have HY := Lib.hid (HY.out.pure t7); have H1 := Lib.hid (H1.out.pure t7); have H2 := Lib.hid (H2.out.pure t7)
  clear t7
  obtain ⟨iv, hivn⟩ : ∃ iv, iv = IV.length := ⟨_, rfl⟩
  rw [← hivn] at H1 H2 ⊢
  have HIV := Lib.hid hivn; clear hivn
  go_wp2_with fail
  refine wp_region_held_drew (S := fun w' => w'.rangeAt g10 0 (u8s root)) (by kernel_rfl) (show w7.drew.rangeAt g10 0 (u8s root) from range_of_row D10.out) (fun _ => ?_)
  have td : Pure w7 w7.drew := (Turn.refl _ _).drew
  have PT := Lib.hid (PT.out.pure td); have D10 := Lib.hid (td.obj D10.out (fun e => e)); have HL := Lib.hid (HL.out.pure td); have HP := Lib.hid (HP.out.pure td); have HX := Lib.hid (HX.out.pure td); have HY := Lib.hid (HY.out.pure td); have H1 := Lib.hid (H1.out.pure td); have H2 := Lib.hid (H2.out.pure td)
  clear td HIC HIR HKC
  generalize w7.drew = wd at *
  refine wpAnyH_take (i := 0) (v := .slice ra iv rc) rfl (by kernel_rfl) (by kernel_rfl) (by kernel_rfl) (fun _ _ _ h => h) (Or.inl ⟨by rfl, fun w hSw => by go_simp⟩) (range_of_row D10.out) ?_
  simp only [List.getElem_toArray, List.getElem_cons_zero, Act.put, List.setIfInBounds_toArray, List.set_cons_zero, List.set_cons_succ]
  refine wpAnyH_take (i := 1) (v := .slice qa iv qc) rfl (by kernel_rfl) (by kernel_rfl) (by kernel_rfl) (fun _ _ _ h => h) (Or.inl ⟨by rfl, fun w hSw => by go_simp⟩) (range_of_row D10.out) ?_
  simp only [List.getElem_toArray, List.getElem_cons_succ, List.getElem_cons_zero, Act.put, List.setIfInBounds_toArray, List.set_cons_zero, List.set_cons_succ]
  refine wpAnyH_step (i := 2) (by kernel_rfl) rfl fun K hK => ?_
  go_simp
  refine (SameHashs_any _ _ _ IV H1.out H2.out (by have := HIV.out; omega)).mono ?_
  rintro e w9 ⟨rfl, t9⟩
  have PT9 : Hid (Pure w w9) := Lib.hid (PT.out.pure t9)
  have HL9 : Hid (Texts w9 (.slice ao n c) ls) := Lib.hid (HL.out.pure t9)
  have HP9 : Hid (Hashs w9 (.slice bo m d) hs) := Lib.hid (HP.out.pure t9)
  have HX9 : Hid (LentT w9 (.slice (some ⟨bx, 0, none⟩) n cx) ls) := Lib.hid (HX.out.pure t9)
  have HY9 : Hid (LentH w9 (.slice (some ⟨by_, 0, none⟩) m cy) hs) := Lib.hid (HY.out.pure t9)
  have H19 : Hid (Hashs w9 (.slice ra iv rc) IV) := Lib.hid (H1.out.pure t9)
  have H29 : Hid (Hashs w9 (.slice qa iv qc) IV) := Lib.hid (H2.out.pure t9)
  have D109 : Hid (w9.heap[g10]? = some (.cells (u8s root).toArray 28 (0, 0))) := Lib.hid (t9.obj D10.out (fun e => e))
  clear PT HL HP HX HY H1 H2 D10
  have PT := Lib.hid PT9.out
  have HL := Lib.hid HL9.out
  have HP := Lib.hid HP9.out
  have HX := Lib.hid HX9.out
  have HY := Lib.hid HY9.out
  have H1 := Lib.hid H19.out
  have H2 := Lib.hid H29.out
  have D10 := Lib.hid D109.out
  clear PT9 HL9 HP9 HX9 HY9 H19 H29 D109
  refine hK.out _ _ (range_of_row D10.out) ?_
  clear hK K t9
  try simp only [List.getElem_toArray, List.getElem_cons_succ, List.getElem_cons_zero, Act.put, List.setIfInBounds_toArray, List.set_cons_zero, List.set_cons_succ]
  refine wpAnyH_take (i := 3) (v := .bool true) rfl (by kernel_rfl) (by kernel_rfl) (by kernel_rfl) (fun _ _ _ h => h) (Or.inl ⟨by rfl, fun w hSw => by go_simp⟩) (range_of_row D10.out) ?_
  simp only [List.getElem_toArray, List.getElem_cons_succ, List.getElem_cons_zero, Act.put, List.setIfInBounds_toArray, List.set_cons_zero, List.set_cons_succ]
  refine wpAnyH_take (i := 4) (v := .int .i64 IE) rfl (by kernel_rfl) (by kernel_rfl) (by kernel_rfl) (fun _ _ _ h => h) (Or.inl ⟨by rfl, fun w hSw => by go_simp⟩) (range_of_row D10.out) ?_
  simp only [List.getElem_toArray, List.getElem_cons_succ, List.getElem_cons_zero, Act.put, List.setIfInBounds_toArray, List.set_cons_zero, List.set_cons_succ]
  refine wpAnyH_take (i := 6) (v := .int .i64 IE) rfl (by kernel_rfl) (by kernel_rfl) (by kernel_rfl) (fun _ _ _ h => h) (Or.inl ⟨by rfl, fun w hSw => by go_simp⟩) (range_of_row D10.out) ?_
  simp only [List.getElem_toArray, List.getElem_cons_succ, List.getElem_cons_zero, Act.put, List.setIfInBounds_toArray, List.set_cons_zero, List.set_cons_succ]
  refine wpAnyH_step (i := 5) (by kernel_rfl) rfl fun K hK => ?_
  go_simp
  refine (Num9_pure _ IE).mono ?_
  rintro e w9 ⟨rfl, t9⟩
  have PT9 : Hid (Pure w w9) := Lib.hid (PT.out.pure t9)
  have HL9 : Hid (Texts w9 (.slice ao n c) ls) := Lib.hid (HL.out.pure t9)
  have HP9 : Hid (Hashs w9 (.slice bo m d) hs) := Lib.hid (HP.out.pure t9)
  have HX9 : Hid (LentT w9 (.slice (some ⟨bx, 0, none⟩) n cx) ls) := Lib.hid (HX.out.pure t9)
  have HY9 : Hid (LentH w9 (.slice (some ⟨by_, 0, none⟩) m cy) hs) := Lib.hid (HY.out.pure t9)
  have H19 : Hid (Hashs w9 (.slice ra iv rc) IV) := Lib.hid (H1.out.pure t9)
  have H29 : Hid (Hashs w9 (.slice qa iv qc) IV) := Lib.hid (H2.out.pure t9)
  have D109 : Hid (w9.heap[g10]? = some (.cells (u8s root).toArray 28 (0, 0))) := Lib.hid (t9.obj D10.out (fun e => e))
  clear PT HL HP HX HY H1 H2 D10
  have PT := Lib.hid PT9.out
  have HL := Lib.hid HL9.out
  have HP := Lib.hid HP9.out
  have HX := Lib.hid HX9.out
  have HY := Lib.hid HY9.out
  have H1 := Lib.hid H19.out
  have H2 := Lib.hid H29.out
  have D10 := Lib.hid D109.out
  clear PT9 HL9 HP9 HX9 HY9 H19 H29 D109
  refine hK.out _ _ (range_of_row D10.out) ?_
  clear hK K t9
  try simp only [List.getElem_toArray, List.getElem_cons_succ, List.getElem_cons_zero, Act.put, List.setIfInBounds_toArray, List.set_cons_zero, List.set_cons_succ]
  refine wpAnyH_take (i := 7) (v := .bool true) rfl (by kernel_rfl) (by kernel_rfl) (by kernel_rfl) (fun _ _ _ h => h) (Or.inl ⟨by rfl, fun w hSw => by go_simp⟩) (range_of_row D10.out) ?_
  simp only [List.getElem_toArray, List.getElem_cons_succ, List.getElem_cons_zero, Act.put, List.setIfInBounds_toArray, List.set_cons_zero, List.set_cons_succ]
  refine wpAnyH_take (i := 8) (v := .bool true) rfl (by kernel_rfl) (by kernel_rfl) (by kernel_rfl) (fun _ _ _ h => h) (Or.inl ⟨by rfl, fun w hSw => by go_simp⟩) (range_of_row D10.out) ?_
  simp only [List.getElem_toArray, List.getElem_cons_succ, List.getElem_cons_zero, Act.put, List.setIfInBounds_toArray, List.set_cons_zero, List.set_cons_succ]
  refine wpAnyH_take (i := 9) (v := .bool true) rfl (by kernel_rfl) (by kernel_rfl) (by kernel_rfl) (fun _ _ _ h => h) (Or.inl ⟨by rfl, fun w hSw => by go_simp⟩) (range_of_row D10.out) ?_
  simp only [List.getElem_toArray, List.getElem_cons_succ, List.getElem_cons_zero, Act.put, List.setIfInBounds_toArray, List.set_cons_zero, List.set_cons_succ]
  refine wpAnyH_take (i := 10) (v := .int .i64 G) rfl (by kernel_rfl) (by kernel_rfl) (by kernel_rfl) (fun _ _ _ h => h) (Or.inl ⟨by rfl, fun w hSw => by go_simp⟩) (range_of_row D10.out) ?_
  simp only [List.getElem_toArray, List.getElem_cons_succ, List.getElem_cons_zero, Act.put, List.setIfInBounds_toArray, List.set_cons_zero, List.set_cons_succ]
  refine wpAnyH_take (i := 12) (v := .string (bstr leaf)) rfl (by kernel_rfl) (by kernel_rfl) (by kernel_rfl) (fun _ _ _ h => h) (Or.inl ⟨by rfl, fun w hSw => by go_simp⟩) (range_of_row D10.out) ?_
  simp only [List.getElem_toArray, List.getElem_cons_succ, List.getElem_cons_zero, Act.put, List.setIfInBounds_toArray, List.set_cons_zero, List.set_cons_succ]
  refine wpAnyH_take (i := 13) (v := .int .i64 i) rfl (by kernel_rfl) (by kernel_rfl) (by kernel_rfl) (fun _ _ _ h => h) (Or.inl ⟨by rfl, fun w hSw => by go_simp⟩) (range_of_row D10.out) ?_
  simp only [List.getElem_toArray, List.getElem_cons_succ, List.getElem_cons_zero, Act.put, List.setIfInBounds_toArray, List.set_cons_zero, List.set_cons_succ]
  refine wpAnyH_take (i := 14) (v := .int .i64 size) rfl (by kernel_rfl) (by kernel_rfl) (by kernel_rfl) (fun _ _ _ h => h) (Or.inl ⟨by rfl, fun w hSw => by go_simp⟩) (range_of_row D10.out) ?_
  simp only [List.getElem_toArray, List.getElem_cons_succ, List.getElem_cons_zero, Act.put, List.setIfInBounds_toArray, List.set_cons_zero, List.set_cons_succ]
  refine wpAnyH_take (i := 15) (v := .slice bo m d) rfl (by kernel_rfl) (by kernel_rfl) (by kernel_rfl) (fun _ _ _ h => h) (Or.inl ⟨by rfl, fun w hSw => by go_simp⟩) (range_of_row D10.out) ?_
  simp only [List.getElem_toArray, List.getElem_cons_succ, List.getElem_cons_zero, Act.put, List.setIfInBounds_toArray, List.set_cons_zero, List.set_cons_succ]
  refine wpAnyH_take (i := 16) (v := hv root) rfl (by kernel_rfl) (by kernel_rfl) (by kernel_rfl) (fun _ _ _ h => h) (yieldsIf_load_mid (by rfl) 28 _ rfl g10 0 rfl (u8s root) _ (fun w h => h) hu28 rfl (info28_l hr)) (range_of_row D10.out) ?_
  simp only [List.getElem_toArray, List.getElem_cons_succ, List.getElem_cons_zero, Act.put, List.setIfInBounds_toArray, List.set_cons_zero, List.set_cons_succ]
  refine wpAnyH_step (i := 11) (by kernel_rfl) rfl fun K hK => ?_
  go_simp
  refine (Num9_pure _ G).mono ?_
  rintro e w9 ⟨rfl, t9⟩
  have PT9 : Hid (Pure w w9) := Lib.hid (PT.out.pure t9)
  have HL9 : Hid (Texts w9 (.slice ao n c) ls) := Lib.hid (HL.out.pure t9)
  have HP9 : Hid (Hashs w9 (.slice bo m d) hs) := Lib.hid (HP.out.pure t9)
  have HX9 : Hid (LentT w9 (.slice (some ⟨bx, 0, none⟩) n cx) ls) := Lib.hid (HX.out.pure t9)
  have HY9 : Hid (LentH w9 (.slice (some ⟨by_, 0, none⟩) m cy) hs) := Lib.hid (HY.out.pure t9)
  have H19 : Hid (Hashs w9 (.slice ra iv rc) IV) := Lib.hid (H1.out.pure t9)
  have H29 : Hid (Hashs w9 (.slice qa iv qc) IV) := Lib.hid (H2.out.pure t9)
  have D109 : Hid (w9.heap[g10]? = some (.cells (u8s root).toArray 28 (0, 0))) := Lib.hid (t9.obj D10.out (fun e => e))
  clear PT HL HP HX HY H1 H2 D10
  have PT := Lib.hid PT9.out
  have HL := Lib.hid HL9.out
  have HP := Lib.hid HP9.out
  have HX := Lib.hid HX9.out
  have HY := Lib.hid HY9.out
  have H1 := Lib.hid H19.out
  have H2 := Lib.hid H29.out
  have D10 := Lib.hid D109.out
  clear PT9 HL9 HP9 HX9 HY9 H19 H29 D109
  refine hK.out _ _ (range_of_row D10.out) ?_
  clear hK K t9
  try simp only [List.getElem_toArray, List.getElem_cons_succ, List.getElem_cons_zero, Act.put, List.setIfInBounds_toArray, List.set_cons_zero, List.set_cons_succ]
  refine wpAnyH_step (i := 17) (by kernel_rfl) rfl fun K hK => ?_
  go_simp
  refine (HKR.out _ _ HP.out).mono ?_
  rintro e w9 ⟨rfl, t9⟩
  have PT9 : Hid (Pure w w9) := Lib.hid (PT.out.pure t9)
  have HL9 : Hid (Texts w9 (.slice ao n c) ls) := Lib.hid (HL.out.pure t9)
  have HP9 : Hid (Hashs w9 (.slice bo m d) hs) := Lib.hid (HP.out.pure t9)
  have HX9 : Hid (LentT w9 (.slice (some ⟨bx, 0, none⟩) n cx) ls) := Lib.hid (HX.out.pure t9)
  have HY9 : Hid (LentH w9 (.slice (some ⟨by_, 0, none⟩) m cy) hs) := Lib.hid (HY.out.pure t9)
  have H19 : Hid (Hashs w9 (.slice ra iv rc) IV) := Lib.hid (H1.out.pure t9)
  have H29 : Hid (Hashs w9 (.slice qa iv qc) IV) := Lib.hid (H2.out.pure t9)
  have D109 : Hid (w9.heap[g10]? = some (.cells (u8s root).toArray 28 (0, 0))) := Lib.hid (t9.obj D10.out (fun e => e))
  clear PT HL HP HX HY H1 H2 D10
  have PT := Lib.hid PT9.out
  have HL := Lib.hid HL9.out
  have HP := Lib.hid HP9.out
  have HX := Lib.hid HX9.out
  have HY := Lib.hid HY9.out
  have H1 := Lib.hid H19.out
  have H2 := Lib.hid H29.out
  have D10 := Lib.hid D109.out
  clear PT9 HL9 HP9 HX9 HY9 H19 H29 D109
  refine hK.out _ _ (range_of_row D10.out) ?_
  clear hK K t9
  try simp only [List.getElem_toArray, List.getElem_cons_succ, List.getElem_cons_zero, Act.put, List.setIfInBounds_toArray, List.set_cons_zero, List.set_cons_succ]
  refine wpAnyH_take (i := 18) (v := .bool true) rfl (by kernel_rfl) (by kernel_rfl) (by kernel_rfl) (fun _ _ _ h => h) (Or.inl ⟨by rfl, fun w hSw => by go_simp⟩) (range_of_row D10.out) ?_
  simp only [List.getElem_toArray, List.getElem_cons_succ, List.getElem_cons_zero, Act.put, List.setIfInBounds_toArray, List.set_cons_zero, List.set_cons_succ]
  refine wpAnyH_take (i := 19) (v := .bool true) rfl (by kernel_rfl) (by kernel_rfl) (by kernel_rfl) (fun _ _ _ h => h) (Or.inl ⟨by rfl, fun w hSw => by go_simp⟩) (range_of_row D10.out) ?_
  simp only [List.getElem_toArray, List.getElem_cons_succ, List.getElem_cons_zero, Act.put, List.setIfInBounds_toArray, List.set_cons_zero, List.set_cons_succ]
  refine wpAnyH_take (i := 20) (v := .bool true) rfl (by kernel_rfl) (by kernel_rfl) (by kernel_rfl) (fun _ _ _ h => h) (Or.inl ⟨by rfl, fun w hSw => by go_simp⟩) (range_of_row D10.out) ?_
  simp only [List.getElem_toArray, List.getElem_cons_succ, List.getElem_cons_zero, Act.put, List.setIfInBounds_toArray, List.set_cons_zero, List.set_cons_succ]
  refine wpAnyH_take (i := 21) (v := .slice (some ⟨bx, 0, none⟩) n cx) rfl (by kernel_rfl) (by kernel_rfl) (by kernel_rfl) (fun _ _ _ h => h) (Or.inl ⟨by rfl, fun w hSw => by go_simp⟩) (range_of_row D10.out) ?_
  simp only [List.getElem_toArray, List.getElem_cons_succ, List.getElem_cons_zero, Act.put, List.setIfInBounds_toArray, List.set_cons_zero, List.set_cons_succ]
  refine wpAnyH_take (i := 22) (v := .slice ao n c) rfl (by kernel_rfl) (by kernel_rfl) (by kernel_rfl) (fun _ _ _ h => h) (Or.inl ⟨by rfl, fun w hSw => by go_simp⟩) (range_of_row D10.out) ?_
  simp only [List.getElem_toArray, List.getElem_cons_succ, List.getElem_cons_zero, Act.put, List.setIfInBounds_toArray, List.set_cons_zero, List.set_cons_succ]
  refine wpAnyH_step (i := 23) (by kernel_rfl) rfl fun K hK => ?_
  go_simp
  refine (KeptTexts_any _ _ _ ls HX.out HL.out hl).mono ?_
  rintro e w9 ⟨rfl, t9⟩
  have PT9 : Hid (Pure w w9) := Lib.hid (PT.out.pure t9)
  have HL9 : Hid (Texts w9 (.slice ao n c) ls) := Lib.hid (HL.out.pure t9)
  have HP9 : Hid (Hashs w9 (.slice bo m d) hs) := Lib.hid (HP.out.pure t9)
  have HX9 : Hid (LentT w9 (.slice (some ⟨bx, 0, none⟩) n cx) ls) := Lib.hid (HX.out.pure t9)
  have HY9 : Hid (LentH w9 (.slice (some ⟨by_, 0, none⟩) m cy) hs) := Lib.hid (HY.out.pure t9)
  have H19 : Hid (Hashs w9 (.slice ra iv rc) IV) := Lib.hid (H1.out.pure t9)
  have H29 : Hid (Hashs w9 (.slice qa iv qc) IV) := Lib.hid (H2.out.pure t9)
  have D109 : Hid (w9.heap[g10]? = some (.cells (u8s root).toArray 28 (0, 0))) := Lib.hid (t9.obj D10.out (fun e => e))
  clear PT HL HP HX HY H1 H2 D10
  have PT := Lib.hid PT9.out
  have HL := Lib.hid HL9.out
  have HP := Lib.hid HP9.out
  have HX := Lib.hid HX9.out
  have HY := Lib.hid HY9.out
  have H1 := Lib.hid H19.out
  have H2 := Lib.hid H29.out
  have D10 := Lib.hid D109.out
  clear PT9 HL9 HP9 HX9 HY9 H19 H29 D109
  refine hK.out _ _ (range_of_row D10.out) ?_
  clear hK K t9
  try simp only [List.getElem_toArray, List.getElem_cons_succ, List.getElem_cons_zero, Act.put, List.setIfInBounds_toArray, List.set_cons_zero, List.set_cons_succ]
  refine wpAnyH_take (i := 24) (v := .bool true) rfl (by kernel_rfl) (by kernel_rfl) (by kernel_rfl) (fun _ _ _ h => h) (Or.inl ⟨by rfl, fun w hSw => by go_simp⟩) (range_of_row D10.out) ?_
  simp only [List.getElem_toArray, List.getElem_cons_succ, List.getElem_cons_zero, Act.put, List.setIfInBounds_toArray, List.set_cons_zero, List.set_cons_succ]
  refine wpAnyH_take (i := 25) (v := .bool true) rfl (by kernel_rfl) (by kernel_rfl) (by kernel_rfl) (fun _ _ _ h => h) (Or.inl ⟨by rfl, fun w hSw => by go_simp⟩) (range_of_row D10.out) ?_
  simp only [List.getElem_toArray, List.getElem_cons_succ, List.getElem_cons_zero, Act.put, List.setIfInBounds_toArray, List.set_cons_zero, List.set_cons_succ]
  refine wpAnyH_take (i := 26) (v := .slice (some ⟨by_, 0, none⟩) m cy) rfl (by kernel_rfl) (by kernel_rfl) (by kernel_rfl) (fun _ _ _ h => h) (Or.inl ⟨by rfl, fun w hSw => by go_simp⟩) (range_of_row D10.out) ?_
  simp only [List.getElem_toArray, List.getElem_cons_succ, List.getElem_cons_zero, Act.put, List.setIfInBounds_toArray, List.set_cons_zero, List.set_cons_succ]
  refine wpAnyH_take (i := 27) (v := .slice bo m d) rfl (by kernel_rfl) (by kernel_rfl) (by kernel_rfl) (fun _ _ _ h => h) (Or.inl ⟨by rfl, fun w hSw => by go_simp⟩) (range_of_row D10.out) ?_
  simp only [List.getElem_toArray, List.getElem_cons_succ, List.getElem_cons_zero, Act.put, List.setIfInBounds_toArray, List.set_cons_zero, List.set_cons_succ]
  refine wpAnyH_step (i := 28) (by kernel_rfl) rfl fun K hK => ?_
  go_simp
  refine (KeptHashs_any _ _ _ hs HY.out HP.out hpl).mono ?_
  rintro e w9 ⟨rfl, t9⟩
  have PT9 : Hid (Pure w w9) := Lib.hid (PT.out.pure t9)
  have HL9 : Hid (Texts w9 (.slice ao n c) ls) := Lib.hid (HL.out.pure t9)
  have HP9 : Hid (Hashs w9 (.slice bo m d) hs) := Lib.hid (HP.out.pure t9)
  have HX9 : Hid (LentT w9 (.slice (some ⟨bx, 0, none⟩) n cx) ls) := Lib.hid (HX.out.pure t9)
  have HY9 : Hid (LentH w9 (.slice (some ⟨by_, 0, none⟩) m cy) hs) := Lib.hid (HY.out.pure t9)
  have H19 : Hid (Hashs w9 (.slice ra iv rc) IV) := Lib.hid (H1.out.pure t9)
  have H29 : Hid (Hashs w9 (.slice qa iv qc) IV) := Lib.hid (H2.out.pure t9)
  have D109 : Hid (w9.heap[g10]? = some (.cells (u8s root).toArray 28 (0, 0))) := Lib.hid (t9.obj D10.out (fun e => e))
  clear PT HL HP HX HY H1 H2 D10
  have PT := Lib.hid PT9.out
  have HL := Lib.hid HL9.out
  have HP := Lib.hid HP9.out
  have HX := Lib.hid HX9.out
  have HY := Lib.hid HY9.out
  have H1 := Lib.hid H19.out
  have H2 := Lib.hid H29.out
  have D10 := Lib.hid D109.out
  clear PT9 HL9 HP9 HX9 HY9 H19 H29 D109
  refine hK.out _ _ (range_of_row D10.out) ?_
  clear hK K t9
  try simp only [List.getElem_toArray, List.getElem_cons_succ, List.getElem_cons_zero, Act.put, List.setIfInBounds_toArray, List.set_cons_zero, List.set_cons_succ]
  refine wpAnyH_take (i := 29) (v := .bool true) rfl (by kernel_rfl) (by kernel_rfl) (by kernel_rfl) (fun _ _ _ h => h) (Or.inl ⟨by rfl, fun w hSw => by go_simp⟩) (range_of_row D10.out) ?_
  simp only [List.getElem_toArray, List.getElem_cons_succ, List.getElem_cons_zero, Act.put, List.setIfInBounds_toArray, List.set_cons_zero, List.set_cons_succ]
  refine wpAnyH_take (i := 30) (v := .bool true) rfl (by kernel_rfl) (by kernel_rfl) (by kernel_rfl) (fun _ _ _ h => h) (Or.inl ⟨by rfl, fun w hSw => by go_simp⟩) (range_of_row D10.out) ?_
  simp only [List.getElem_toArray, List.getElem_cons_succ, List.getElem_cons_zero, Act.put, List.setIfInBounds_toArray, List.set_cons_zero, List.set_cons_succ]
  refine wpAnyH_step (i := 31) (by kernel_rfl) rfl fun K hK => ?_
  go_simp
  refine (awake10 _).mono ?_
  rintro e w9 ⟨rfl, t9⟩
  have PT9 : Hid (Pure w w9) := Lib.hid (PT.out.pure t9)
  have HL9 : Hid (Texts w9 (.slice ao n c) ls) := Lib.hid (HL.out.pure t9)
  have HP9 : Hid (Hashs w9 (.slice bo m d) hs) := Lib.hid (HP.out.pure t9)
  have HX9 : Hid (LentT w9 (.slice (some ⟨bx, 0, none⟩) n cx) ls) := Lib.hid (HX.out.pure t9)
  have HY9 : Hid (LentH w9 (.slice (some ⟨by_, 0, none⟩) m cy) hs) := Lib.hid (HY.out.pure t9)
  have H19 : Hid (Hashs w9 (.slice ra iv rc) IV) := Lib.hid (H1.out.pure t9)
  have H29 : Hid (Hashs w9 (.slice qa iv qc) IV) := Lib.hid (H2.out.pure t9)
  have D109 : Hid (w9.heap[g10]? = some (.cells (u8s root).toArray 28 (0, 0))) := Lib.hid (t9.obj D10.out (fun e => e))
  clear PT HL HP HX HY H1 H2 D10
  have PT := Lib.hid PT9.out
  have HL := Lib.hid HL9.out
  have HP := Lib.hid HP9.out
  have HX := Lib.hid HX9.out
  have HY := Lib.hid HY9.out
  have H1 := Lib.hid H19.out
  have H2 := Lib.hid H29.out
  have D10 := Lib.hid D109.out
  clear PT9 HL9 HP9 HX9 HY9 H19 H29 D109
  refine hK.out _ _ (range_of_row D10.out) ?_
  clear hK K t9
  try simp only [List.getElem_toArray, List.getElem_cons_succ, List.getElem_cons_zero, Act.put, List.setIfInBounds_toArray, List.set_cons_zero, List.set_cons_succ]
  refine wpAnyH_take (i := 32) (v := .bool true) rfl (by kernel_rfl) (by kernel_rfl) (by kernel_rfl) (fun _ _ _ h => h) (Or.inl ⟨by rfl, fun w hSw => by go_simp⟩) (range_of_row D10.out) ?_
  simp only [List.getElem_toArray, List.getElem_cons_succ, List.getElem_cons_zero, Act.put, List.setIfInBounds_toArray, List.set_cons_zero, List.set_cons_succ]
  refine wpAnyH_take (i := 33) (v := .bool true) rfl (by kernel_rfl) (by kernel_rfl) (by kernel_rfl) (fun _ _ _ h => h) (Or.inl ⟨by rfl, fun w hSw => by go_simp⟩) (range_of_row D10.out) ?_
  simp only [List.getElem_toArray, List.getElem_cons_succ, List.getElem_cons_zero, Act.put, List.setIfInBounds_toArray, List.set_cons_zero, List.set_cons_succ]
  refine wpAnyH_done (by kernel_rfl) ?_ _
  go_wp2
  go_ret
  exact ⟨rfl, PT.out⟩

set_option maxRecDepth 100000 in
set_option maxHeartbeats 2000000 in
theorem Consistents_true (w : World) (v : Value) (ls : List (List UInt8)) (i : Int) (old : List UInt8) (size : Int) (root : List UInt8) (u : Value) (hs : List (List UInt8)) (h : Texts w v ls) (hf : Fits ls) (hl : ls.length ≤ 8796093021952) (hi : -9223372036854775808 ≤ i ∧ i ≤ 9223372036854775807) (ho : old.length = 32) (hp : Hashs w u hs) (hpl : hs.length ≤ 4398046510976) (hr : root.length = 32) :
    Calls Try.prog 8 #[v, .int .i64 i, hv old, .int .i64 size, hv root, u] w fun e w' => e = .returned (.bool true) ∧ Pure w w' := by
  have hu28 := Try.underlying28
  have hkc := fun W V (hW : Hashs W V hs) => CheckConsistency_any W i old size root V hs hW hpl ho hr
  have hkr := fun W V (hW : Hashs W V hs) => RCheckConsistency_any W i old size root V hs hW hpl ho hr
  generalize cchkI i old size root hs = G at hkc hkr
  have hic := fun W V (hW : Texts W V ls) => Consistency_any W V ls i hW hf hl hi
  have hir := fun W V (hW : Texts W V ls) => RConsistency_any W V ls i hW hf hl hi
  have hiv := consV_ok ls i
  generalize consE ls i = IE at hic hir
  generalize consV ls i = IV at hic hir hiv
  obtain ⟨hivl, hiv32⟩ := hiv
  have HKC := Lib.hid hkc; have HKR := Lib.hid hkr; have HIC := Lib.hid hic; have HIR := Lib.hid hir; have H32 := Lib.hid hiv32
  have HL := Lib.hid h; have HP := Lib.hid hp
  clear hkc hkr hic hir hiv32
  obtain ⟨ao, c, rfl, _, _⟩ := h
  obtain ⟨bo, d, rfl, _, _, _⟩ := hp
  obtain ⟨n, hn⟩ : ∃ n, n = ls.length := ⟨_, rfl⟩
  obtain ⟨m, hm⟩ : ∃ m, m = hs.length := ⟨_, rfl⟩
  rw [← hn] at HL ⊢
  rw [← hm] at HP ⊢
  have HN := Lib.hid (And.intro hn hm); clear hn hm
  go_enter Try.func8, Try.ntmps8
  go_wp2_with (refine wpList_boxV rfl 28 _ rfl (u8s old) rfl ?_)
  intro g8 w1 e1 c1 t1 s1
  clear e1
  go_wp2_with (refine wpList_boxV rfl 28 _ rfl (u8s root) rfl ?_)
  intro g10 w2 e2 c2 t2 s2
  clear e2
  have D8 := Lib.hid (t2.obj c1 (fun e => e)); have D10 := Lib.hid c2; have PT := Lib.hid (t1.pure t2)
  clear c1 t1 s1 c2 t2 s2
  have HL := Lib.hid (HL.out.pure PT.out); have HP := Lib.hid (HP.out.pure PT.out)
  go_wp2_with fail
  refine (LendTexts_any _ _ ls HL.out hl).mono ?_
  rintro e w3 ⟨rx, rfl, hx, t3⟩
  have PT := Lib.hid (PT.out.pure t3); have D8 := Lib.hid (t3.obj D8.out (fun e => e)); have D10 := Lib.hid (t3.obj D10.out (fun e => e)); have HL := Lib.hid (HL.out.pure t3); have HP := Lib.hid (HP.out.pure t3)
  have HX := Lib.hid hx
  obtain ⟨bx, cx, rfl, _, _⟩ := hx
  rw [← HN.out.1] at HX ⊢
  clear t3
  go_wp2_with fail
  refine (LendHashs_any _ _ hs HP.out hpl).mono ?_
  rintro e w4 ⟨ry, rfl, hy, t4⟩
  have PT := Lib.hid (PT.out.pure t4); have D8 := Lib.hid (t4.obj D8.out (fun e => e)); have D10 := Lib.hid (t4.obj D10.out (fun e => e)); have HL := Lib.hid (HL.out.pure t4); have HP := Lib.hid (HP.out.pure t4); have HX := Lib.hid (HX.out.pure t4)
  have HY := Lib.hid hy
  obtain ⟨by_, cy, rfl, _, _, _⟩ := hy
  rw [← HN.out.2] at HY ⊢
  clear t4
  go_wp2_with fail
  refine (HIC.out _ _ HX.out.texts).mono ?_
  rintro e w5 ⟨r1, rfl, ho1, _, t5⟩
  have PT := Lib.hid (PT.out.pure t5); have D8 := Lib.hid (t5.obj D8.out (fun e => e)); have D10 := Lib.hid (t5.obj D10.out (fun e => e)); have HL := Lib.hid (HL.out.pure t5); have HP := Lib.hid (HP.out.pure t5); have HX := Lib.hid (HX.out.pure t5); have HY := Lib.hid (HY.out.pure t5)
  have H1 := Lib.hid (Hashs.own ho1 H32.out)
  obtain ⟨ra, rc, rfl, _⟩ := ownsRow_shape ho1
  clear t5 ho1
  go_wp2_with fail
  refine (HIR.out _ _ HL.out).mono ?_
  rintro e w6 ⟨r2, rfl, ho2, _, t6⟩
  have PT := Lib.hid (PT.out.pure t6); have D8 := Lib.hid (t6.obj D8.out (fun e => e)); have D10 := Lib.hid (t6.obj D10.out (fun e => e)); have HL := Lib.hid (HL.out.pure t6); have HP := Lib.hid (HP.out.pure t6); have HX := Lib.hid (HX.out.pure t6); have HY := Lib.hid (HY.out.pure t6); have H1 := Lib.hid (H1.out.pure t6)
  have H2 := Lib.hid (Hashs.own ho2 H32.out)
  obtain ⟨qa, qc, rfl, _⟩ := ownsRow_shape ho2
  clear t6 ho2
  go_wp2_with (first | (refine wpList_load_row rfl 28 _ rfl g8 rfl _ (u8s old).toArray _ _ D8.out hu28 rfl (info28_a ho) ?_) | (refine wpList_load_row rfl 28 _ rfl g10 rfl _ (u8s root).toArray _ _ D10.out hu28 rfl (info28_a hr) ?_))
  refine (HKC.out _ _ HY.out.hashs).mono ?_
  rintro e w7 ⟨rfl, t7⟩
  have PT := Lib.hid (PT.out.pure t7); have D8 := Lib.hid (t7.obj D8.out (fun e => e)); have D10 := Lib.hid (t7.obj D10.out (fun e => e)); have HL := Lib.hid (HL.out.pure t7); have HP := Lib.hid (HP.out.pure t7); have HX := Lib.hid (HX.out.pure t7); have HY := Lib.hid (HY.out.pure t7); have H1 := Lib.hid (H1.out.pure t7); have H2 := Lib.hid (H2.out.pure t7)
  clear t7
  obtain ⟨iv, hivn⟩ : ∃ iv, iv = IV.length := ⟨_, rfl⟩
  rw [← hivn] at H1 H2 ⊢
  have HIV := Lib.hid hivn; clear hivn
  go_wp2_with fail
  refine wp_region_held_drew (S := fun w' => w'.rangeAt g8 0 (u8s old) ∧ w'.rangeAt g10 0 (u8s root)) (by kernel_rfl) (show w7.drew.rangeAt g8 0 (u8s old) ∧ w7.drew.rangeAt g10 0 (u8s root) from ⟨range_of_row D8.out, range_of_row D10.out⟩) (fun _ => ?_)
  have td : Pure w7 w7.drew := (Turn.refl _ _).drew
  have PT := Lib.hid (PT.out.pure td); have D8 := Lib.hid (td.obj D8.out (fun e => e)); have D10 := Lib.hid (td.obj D10.out (fun e => e)); have HL := Lib.hid (HL.out.pure td); have HP := Lib.hid (HP.out.pure td); have HX := Lib.hid (HX.out.pure td); have HY := Lib.hid (HY.out.pure td); have H1 := Lib.hid (H1.out.pure td); have H2 := Lib.hid (H2.out.pure td)
  clear td HIC HIR HKC
  generalize w7.drew = wd at *
  refine wpAnyH_take (i := 0) (v := .slice ra iv rc) rfl (by kernel_rfl) (by kernel_rfl) (by kernel_rfl) (fun _ _ _ h => h) (Or.inl ⟨by rfl, fun w hSw => by go_simp⟩) (And.intro (range_of_row D8.out) (range_of_row D10.out)) ?_
  simp only [List.getElem_toArray, List.getElem_cons_zero, Act.put, List.setIfInBounds_toArray, List.set_cons_zero, List.set_cons_succ]
  refine wpAnyH_take (i := 1) (v := .slice qa iv qc) rfl (by kernel_rfl) (by kernel_rfl) (by kernel_rfl) (fun _ _ _ h => h) (Or.inl ⟨by rfl, fun w hSw => by go_simp⟩) (And.intro (range_of_row D8.out) (range_of_row D10.out)) ?_
  simp only [List.getElem_toArray, List.getElem_cons_succ, List.getElem_cons_zero, Act.put, List.setIfInBounds_toArray, List.set_cons_zero, List.set_cons_succ]
  refine wpAnyH_step (i := 2) (by kernel_rfl) rfl fun K hK => ?_
  go_simp
  refine (SameHashs_any _ _ _ IV H1.out H2.out (by have := HIV.out; omega)).mono ?_
  rintro e w9 ⟨rfl, t9⟩
  have PT9 : Hid (Pure w w9) := Lib.hid (PT.out.pure t9)
  have HL9 : Hid (Texts w9 (.slice ao n c) ls) := Lib.hid (HL.out.pure t9)
  have HP9 : Hid (Hashs w9 (.slice bo m d) hs) := Lib.hid (HP.out.pure t9)
  have HX9 : Hid (LentT w9 (.slice (some ⟨bx, 0, none⟩) n cx) ls) := Lib.hid (HX.out.pure t9)
  have HY9 : Hid (LentH w9 (.slice (some ⟨by_, 0, none⟩) m cy) hs) := Lib.hid (HY.out.pure t9)
  have H19 : Hid (Hashs w9 (.slice ra iv rc) IV) := Lib.hid (H1.out.pure t9)
  have H29 : Hid (Hashs w9 (.slice qa iv qc) IV) := Lib.hid (H2.out.pure t9)
  have D89 : Hid (w9.heap[g8]? = some (.cells (u8s old).toArray 28 (0, 0))) := Lib.hid (t9.obj D8.out (fun e => e))
  have D109 : Hid (w9.heap[g10]? = some (.cells (u8s root).toArray 28 (0, 0))) := Lib.hid (t9.obj D10.out (fun e => e))
  clear PT HL HP HX HY H1 H2 D8 D10
  have PT := Lib.hid PT9.out
  have HL := Lib.hid HL9.out
  have HP := Lib.hid HP9.out
  have HX := Lib.hid HX9.out
  have HY := Lib.hid HY9.out
  have H1 := Lib.hid H19.out
  have H2 := Lib.hid H29.out
  have D8 := Lib.hid D89.out
  have D10 := Lib.hid D109.out
  clear PT9 HL9 HP9 HX9 HY9 H19 H29 D89 D109
  refine hK.out _ _ (And.intro (range_of_row D8.out) (range_of_row D10.out)) ?_
  clear hK K t9
  try simp only [List.getElem_toArray, List.getElem_cons_succ, List.getElem_cons_zero, Act.put, List.setIfInBounds_toArray, List.set_cons_zero, List.set_cons_succ]
  refine wpAnyH_take (i := 3) (v := .bool true) rfl (by kernel_rfl) (by kernel_rfl) (by kernel_rfl) (fun _ _ _ h => h) (Or.inl ⟨by rfl, fun w hSw => by go_simp⟩) (And.intro (range_of_row D8.out) (range_of_row D10.out)) ?_
  simp only [List.getElem_toArray, List.getElem_cons_succ, List.getElem_cons_zero, Act.put, List.setIfInBounds_toArray, List.set_cons_zero, List.set_cons_succ]
  refine wpAnyH_take (i := 4) (v := .int .i64 IE) rfl (by kernel_rfl) (by kernel_rfl) (by kernel_rfl) (fun _ _ _ h => h) (Or.inl ⟨by rfl, fun w hSw => by go_simp⟩) (And.intro (range_of_row D8.out) (range_of_row D10.out)) ?_
  simp only [List.getElem_toArray, List.getElem_cons_succ, List.getElem_cons_zero, Act.put, List.setIfInBounds_toArray, List.set_cons_zero, List.set_cons_succ]
  refine wpAnyH_take (i := 6) (v := .int .i64 IE) rfl (by kernel_rfl) (by kernel_rfl) (by kernel_rfl) (fun _ _ _ h => h) (Or.inl ⟨by rfl, fun w hSw => by go_simp⟩) (And.intro (range_of_row D8.out) (range_of_row D10.out)) ?_
  simp only [List.getElem_toArray, List.getElem_cons_succ, List.getElem_cons_zero, Act.put, List.setIfInBounds_toArray, List.set_cons_zero, List.set_cons_succ]
  refine wpAnyH_step (i := 5) (by kernel_rfl) rfl fun K hK => ?_
  go_simp
  refine (Num9_pure _ IE).mono ?_
  rintro e w9 ⟨rfl, t9⟩
  have PT9 : Hid (Pure w w9) := Lib.hid (PT.out.pure t9)
  have HL9 : Hid (Texts w9 (.slice ao n c) ls) := Lib.hid (HL.out.pure t9)
  have HP9 : Hid (Hashs w9 (.slice bo m d) hs) := Lib.hid (HP.out.pure t9)
  have HX9 : Hid (LentT w9 (.slice (some ⟨bx, 0, none⟩) n cx) ls) := Lib.hid (HX.out.pure t9)
  have HY9 : Hid (LentH w9 (.slice (some ⟨by_, 0, none⟩) m cy) hs) := Lib.hid (HY.out.pure t9)
  have H19 : Hid (Hashs w9 (.slice ra iv rc) IV) := Lib.hid (H1.out.pure t9)
  have H29 : Hid (Hashs w9 (.slice qa iv qc) IV) := Lib.hid (H2.out.pure t9)
  have D89 : Hid (w9.heap[g8]? = some (.cells (u8s old).toArray 28 (0, 0))) := Lib.hid (t9.obj D8.out (fun e => e))
  have D109 : Hid (w9.heap[g10]? = some (.cells (u8s root).toArray 28 (0, 0))) := Lib.hid (t9.obj D10.out (fun e => e))
  clear PT HL HP HX HY H1 H2 D8 D10
  have PT := Lib.hid PT9.out
  have HL := Lib.hid HL9.out
  have HP := Lib.hid HP9.out
  have HX := Lib.hid HX9.out
  have HY := Lib.hid HY9.out
  have H1 := Lib.hid H19.out
  have H2 := Lib.hid H29.out
  have D8 := Lib.hid D89.out
  have D10 := Lib.hid D109.out
  clear PT9 HL9 HP9 HX9 HY9 H19 H29 D89 D109
  refine hK.out _ _ (And.intro (range_of_row D8.out) (range_of_row D10.out)) ?_
  clear hK K t9
  try simp only [List.getElem_toArray, List.getElem_cons_succ, List.getElem_cons_zero, Act.put, List.setIfInBounds_toArray, List.set_cons_zero, List.set_cons_succ]
  refine wpAnyH_take (i := 7) (v := .bool true) rfl (by kernel_rfl) (by kernel_rfl) (by kernel_rfl) (fun _ _ _ h => h) (Or.inl ⟨by rfl, fun w hSw => by go_simp⟩) (And.intro (range_of_row D8.out) (range_of_row D10.out)) ?_
  simp only [List.getElem_toArray, List.getElem_cons_succ, List.getElem_cons_zero, Act.put, List.setIfInBounds_toArray, List.set_cons_zero, List.set_cons_succ]
  refine wpAnyH_take (i := 8) (v := .bool true) rfl (by kernel_rfl) (by kernel_rfl) (by kernel_rfl) (fun _ _ _ h => h) (Or.inl ⟨by rfl, fun w hSw => by go_simp⟩) (And.intro (range_of_row D8.out) (range_of_row D10.out)) ?_
  simp only [List.getElem_toArray, List.getElem_cons_succ, List.getElem_cons_zero, Act.put, List.setIfInBounds_toArray, List.set_cons_zero, List.set_cons_succ]
  refine wpAnyH_take (i := 9) (v := .bool true) rfl (by kernel_rfl) (by kernel_rfl) (by kernel_rfl) (fun _ _ _ h => h) (Or.inl ⟨by rfl, fun w hSw => by go_simp⟩) (And.intro (range_of_row D8.out) (range_of_row D10.out)) ?_
  simp only [List.getElem_toArray, List.getElem_cons_succ, List.getElem_cons_zero, Act.put, List.setIfInBounds_toArray, List.set_cons_zero, List.set_cons_succ]
  refine wpAnyH_take (i := 10) (v := .int .i64 G) rfl (by kernel_rfl) (by kernel_rfl) (by kernel_rfl) (fun _ _ _ h => h) (Or.inl ⟨by rfl, fun w hSw => by go_simp⟩) (And.intro (range_of_row D8.out) (range_of_row D10.out)) ?_
  simp only [List.getElem_toArray, List.getElem_cons_succ, List.getElem_cons_zero, Act.put, List.setIfInBounds_toArray, List.set_cons_zero, List.set_cons_succ]
  refine wpAnyH_take (i := 12) (v := .int .i64 i) rfl (by kernel_rfl) (by kernel_rfl) (by kernel_rfl) (fun _ _ _ h => h) (Or.inl ⟨by rfl, fun w hSw => by go_simp⟩) (And.intro (range_of_row D8.out) (range_of_row D10.out)) ?_
  simp only [List.getElem_toArray, List.getElem_cons_succ, List.getElem_cons_zero, Act.put, List.setIfInBounds_toArray, List.set_cons_zero, List.set_cons_succ]
  refine wpAnyH_take (i := 13) (v := hv old) rfl (by kernel_rfl) (by kernel_rfl) (by kernel_rfl) (fun _ _ _ h => h) (yieldsIf_load_mid (by rfl) 28 _ rfl g8 0 rfl (u8s old) _ (fun w h => h.1) hu28 rfl (info28_l ho)) (And.intro (range_of_row D8.out) (range_of_row D10.out)) ?_
  simp only [List.getElem_toArray, List.getElem_cons_succ, List.getElem_cons_zero, Act.put, List.setIfInBounds_toArray, List.set_cons_zero, List.set_cons_succ]
  refine wpAnyH_take (i := 14) (v := .int .i64 size) rfl (by kernel_rfl) (by kernel_rfl) (by kernel_rfl) (fun _ _ _ h => h) (Or.inl ⟨by rfl, fun w hSw => by go_simp⟩) (And.intro (range_of_row D8.out) (range_of_row D10.out)) ?_
  simp only [List.getElem_toArray, List.getElem_cons_succ, List.getElem_cons_zero, Act.put, List.setIfInBounds_toArray, List.set_cons_zero, List.set_cons_succ]
  refine wpAnyH_take (i := 15) (v := hv root) rfl (by kernel_rfl) (by kernel_rfl) (by kernel_rfl) (fun _ _ _ h => h) (yieldsIf_load_mid (by rfl) 28 _ rfl g10 0 rfl (u8s root) _ (fun w h => h.2) hu28 rfl (info28_l hr)) (And.intro (range_of_row D8.out) (range_of_row D10.out)) ?_
  simp only [List.getElem_toArray, List.getElem_cons_succ, List.getElem_cons_zero, Act.put, List.setIfInBounds_toArray, List.set_cons_zero, List.set_cons_succ]
  refine wpAnyH_take (i := 16) (v := .slice bo m d) rfl (by kernel_rfl) (by kernel_rfl) (by kernel_rfl) (fun _ _ _ h => h) (Or.inl ⟨by rfl, fun w hSw => by go_simp⟩) (And.intro (range_of_row D8.out) (range_of_row D10.out)) ?_
  simp only [List.getElem_toArray, List.getElem_cons_succ, List.getElem_cons_zero, Act.put, List.setIfInBounds_toArray, List.set_cons_zero, List.set_cons_succ]
  refine wpAnyH_step (i := 11) (by kernel_rfl) rfl fun K hK => ?_
  go_simp
  refine (Num9_pure _ G).mono ?_
  rintro e w9 ⟨rfl, t9⟩
  have PT9 : Hid (Pure w w9) := Lib.hid (PT.out.pure t9)
  have HL9 : Hid (Texts w9 (.slice ao n c) ls) := Lib.hid (HL.out.pure t9)
  have HP9 : Hid (Hashs w9 (.slice bo m d) hs) := Lib.hid (HP.out.pure t9)
  have HX9 : Hid (LentT w9 (.slice (some ⟨bx, 0, none⟩) n cx) ls) := Lib.hid (HX.out.pure t9)
  have HY9 : Hid (LentH w9 (.slice (some ⟨by_, 0, none⟩) m cy) hs) := Lib.hid (HY.out.pure t9)
  have H19 : Hid (Hashs w9 (.slice ra iv rc) IV) := Lib.hid (H1.out.pure t9)
  have H29 : Hid (Hashs w9 (.slice qa iv qc) IV) := Lib.hid (H2.out.pure t9)
  have D89 : Hid (w9.heap[g8]? = some (.cells (u8s old).toArray 28 (0, 0))) := Lib.hid (t9.obj D8.out (fun e => e))
  have D109 : Hid (w9.heap[g10]? = some (.cells (u8s root).toArray 28 (0, 0))) := Lib.hid (t9.obj D10.out (fun e => e))
  clear PT HL HP HX HY H1 H2 D8 D10
  have PT := Lib.hid PT9.out
  have HL := Lib.hid HL9.out
  have HP := Lib.hid HP9.out
  have HX := Lib.hid HX9.out
  have HY := Lib.hid HY9.out
  have H1 := Lib.hid H19.out
  have H2 := Lib.hid H29.out
  have D8 := Lib.hid D89.out
  have D10 := Lib.hid D109.out
  clear PT9 HL9 HP9 HX9 HY9 H19 H29 D89 D109
  refine hK.out _ _ (And.intro (range_of_row D8.out) (range_of_row D10.out)) ?_
  clear hK K t9
  try simp only [List.getElem_toArray, List.getElem_cons_succ, List.getElem_cons_zero, Act.put, List.setIfInBounds_toArray, List.set_cons_zero, List.set_cons_succ]
  refine wpAnyH_step (i := 17) (by kernel_rfl) rfl fun K hK => ?_
  go_simp
  refine (HKR.out _ _ HP.out).mono ?_
  rintro e w9 ⟨rfl, t9⟩
  have PT9 : Hid (Pure w w9) := Lib.hid (PT.out.pure t9)
  have HL9 : Hid (Texts w9 (.slice ao n c) ls) := Lib.hid (HL.out.pure t9)
  have HP9 : Hid (Hashs w9 (.slice bo m d) hs) := Lib.hid (HP.out.pure t9)
  have HX9 : Hid (LentT w9 (.slice (some ⟨bx, 0, none⟩) n cx) ls) := Lib.hid (HX.out.pure t9)
  have HY9 : Hid (LentH w9 (.slice (some ⟨by_, 0, none⟩) m cy) hs) := Lib.hid (HY.out.pure t9)
  have H19 : Hid (Hashs w9 (.slice ra iv rc) IV) := Lib.hid (H1.out.pure t9)
  have H29 : Hid (Hashs w9 (.slice qa iv qc) IV) := Lib.hid (H2.out.pure t9)
  have D89 : Hid (w9.heap[g8]? = some (.cells (u8s old).toArray 28 (0, 0))) := Lib.hid (t9.obj D8.out (fun e => e))
  have D109 : Hid (w9.heap[g10]? = some (.cells (u8s root).toArray 28 (0, 0))) := Lib.hid (t9.obj D10.out (fun e => e))
  clear PT HL HP HX HY H1 H2 D8 D10
  have PT := Lib.hid PT9.out
  have HL := Lib.hid HL9.out
  have HP := Lib.hid HP9.out
  have HX := Lib.hid HX9.out
  have HY := Lib.hid HY9.out
  have H1 := Lib.hid H19.out
  have H2 := Lib.hid H29.out
  have D8 := Lib.hid D89.out
  have D10 := Lib.hid D109.out
  clear PT9 HL9 HP9 HX9 HY9 H19 H29 D89 D109
  refine hK.out _ _ (And.intro (range_of_row D8.out) (range_of_row D10.out)) ?_
  clear hK K t9
  try simp only [List.getElem_toArray, List.getElem_cons_succ, List.getElem_cons_zero, Act.put, List.setIfInBounds_toArray, List.set_cons_zero, List.set_cons_succ]
  refine wpAnyH_take (i := 18) (v := .bool true) rfl (by kernel_rfl) (by kernel_rfl) (by kernel_rfl) (fun _ _ _ h => h) (Or.inl ⟨by rfl, fun w hSw => by go_simp⟩) (And.intro (range_of_row D8.out) (range_of_row D10.out)) ?_
  simp only [List.getElem_toArray, List.getElem_cons_succ, List.getElem_cons_zero, Act.put, List.setIfInBounds_toArray, List.set_cons_zero, List.set_cons_succ]
  refine wpAnyH_take (i := 19) (v := .bool true) rfl (by kernel_rfl) (by kernel_rfl) (by kernel_rfl) (fun _ _ _ h => h) (Or.inl ⟨by rfl, fun w hSw => by go_simp⟩) (And.intro (range_of_row D8.out) (range_of_row D10.out)) ?_
  simp only [List.getElem_toArray, List.getElem_cons_succ, List.getElem_cons_zero, Act.put, List.setIfInBounds_toArray, List.set_cons_zero, List.set_cons_succ]
  refine wpAnyH_take (i := 20) (v := .bool true) rfl (by kernel_rfl) (by kernel_rfl) (by kernel_rfl) (fun _ _ _ h => h) (Or.inl ⟨by rfl, fun w hSw => by go_simp⟩) (And.intro (range_of_row D8.out) (range_of_row D10.out)) ?_
  simp only [List.getElem_toArray, List.getElem_cons_succ, List.getElem_cons_zero, Act.put, List.setIfInBounds_toArray, List.set_cons_zero, List.set_cons_succ]
  refine wpAnyH_take (i := 21) (v := .slice (some ⟨bx, 0, none⟩) n cx) rfl (by kernel_rfl) (by kernel_rfl) (by kernel_rfl) (fun _ _ _ h => h) (Or.inl ⟨by rfl, fun w hSw => by go_simp⟩) (And.intro (range_of_row D8.out) (range_of_row D10.out)) ?_
  simp only [List.getElem_toArray, List.getElem_cons_succ, List.getElem_cons_zero, Act.put, List.setIfInBounds_toArray, List.set_cons_zero, List.set_cons_succ]
  refine wpAnyH_take (i := 22) (v := .slice ao n c) rfl (by kernel_rfl) (by kernel_rfl) (by kernel_rfl) (fun _ _ _ h => h) (Or.inl ⟨by rfl, fun w hSw => by go_simp⟩) (And.intro (range_of_row D8.out) (range_of_row D10.out)) ?_
  simp only [List.getElem_toArray, List.getElem_cons_succ, List.getElem_cons_zero, Act.put, List.setIfInBounds_toArray, List.set_cons_zero, List.set_cons_succ]
  refine wpAnyH_step (i := 23) (by kernel_rfl) rfl fun K hK => ?_
  go_simp
  refine (KeptTexts_any _ _ _ ls HX.out HL.out hl).mono ?_
  rintro e w9 ⟨rfl, t9⟩
  have PT9 : Hid (Pure w w9) := Lib.hid (PT.out.pure t9)
  have HL9 : Hid (Texts w9 (.slice ao n c) ls) := Lib.hid (HL.out.pure t9)
  have HP9 : Hid (Hashs w9 (.slice bo m d) hs) := Lib.hid (HP.out.pure t9)
  have HX9 : Hid (LentT w9 (.slice (some ⟨bx, 0, none⟩) n cx) ls) := Lib.hid (HX.out.pure t9)
  have HY9 : Hid (LentH w9 (.slice (some ⟨by_, 0, none⟩) m cy) hs) := Lib.hid (HY.out.pure t9)
  have H19 : Hid (Hashs w9 (.slice ra iv rc) IV) := Lib.hid (H1.out.pure t9)
  have H29 : Hid (Hashs w9 (.slice qa iv qc) IV) := Lib.hid (H2.out.pure t9)
  have D89 : Hid (w9.heap[g8]? = some (.cells (u8s old).toArray 28 (0, 0))) := Lib.hid (t9.obj D8.out (fun e => e))
  have D109 : Hid (w9.heap[g10]? = some (.cells (u8s root).toArray 28 (0, 0))) := Lib.hid (t9.obj D10.out (fun e => e))
  clear PT HL HP HX HY H1 H2 D8 D10
  have PT := Lib.hid PT9.out
  have HL := Lib.hid HL9.out
  have HP := Lib.hid HP9.out
  have HX := Lib.hid HX9.out
  have HY := Lib.hid HY9.out
  have H1 := Lib.hid H19.out
  have H2 := Lib.hid H29.out
  have D8 := Lib.hid D89.out
  have D10 := Lib.hid D109.out
  clear PT9 HL9 HP9 HX9 HY9 H19 H29 D89 D109
  refine hK.out _ _ (And.intro (range_of_row D8.out) (range_of_row D10.out)) ?_
  clear hK K t9
  try simp only [List.getElem_toArray, List.getElem_cons_succ, List.getElem_cons_zero, Act.put, List.setIfInBounds_toArray, List.set_cons_zero, List.set_cons_succ]
  refine wpAnyH_take (i := 24) (v := .bool true) rfl (by kernel_rfl) (by kernel_rfl) (by kernel_rfl) (fun _ _ _ h => h) (Or.inl ⟨by rfl, fun w hSw => by go_simp⟩) (And.intro (range_of_row D8.out) (range_of_row D10.out)) ?_
  simp only [List.getElem_toArray, List.getElem_cons_succ, List.getElem_cons_zero, Act.put, List.setIfInBounds_toArray, List.set_cons_zero, List.set_cons_succ]
  refine wpAnyH_take (i := 25) (v := .bool true) rfl (by kernel_rfl) (by kernel_rfl) (by kernel_rfl) (fun _ _ _ h => h) (Or.inl ⟨by rfl, fun w hSw => by go_simp⟩) (And.intro (range_of_row D8.out) (range_of_row D10.out)) ?_
  simp only [List.getElem_toArray, List.getElem_cons_succ, List.getElem_cons_zero, Act.put, List.setIfInBounds_toArray, List.set_cons_zero, List.set_cons_succ]
  refine wpAnyH_take (i := 26) (v := .slice (some ⟨by_, 0, none⟩) m cy) rfl (by kernel_rfl) (by kernel_rfl) (by kernel_rfl) (fun _ _ _ h => h) (Or.inl ⟨by rfl, fun w hSw => by go_simp⟩) (And.intro (range_of_row D8.out) (range_of_row D10.out)) ?_
  simp only [List.getElem_toArray, List.getElem_cons_succ, List.getElem_cons_zero, Act.put, List.setIfInBounds_toArray, List.set_cons_zero, List.set_cons_succ]
  refine wpAnyH_take (i := 27) (v := .slice bo m d) rfl (by kernel_rfl) (by kernel_rfl) (by kernel_rfl) (fun _ _ _ h => h) (Or.inl ⟨by rfl, fun w hSw => by go_simp⟩) (And.intro (range_of_row D8.out) (range_of_row D10.out)) ?_
  simp only [List.getElem_toArray, List.getElem_cons_succ, List.getElem_cons_zero, Act.put, List.setIfInBounds_toArray, List.set_cons_zero, List.set_cons_succ]
  refine wpAnyH_step (i := 28) (by kernel_rfl) rfl fun K hK => ?_
  go_simp
  refine (KeptHashs_any _ _ _ hs HY.out HP.out hpl).mono ?_
  rintro e w9 ⟨rfl, t9⟩
  have PT9 : Hid (Pure w w9) := Lib.hid (PT.out.pure t9)
  have HL9 : Hid (Texts w9 (.slice ao n c) ls) := Lib.hid (HL.out.pure t9)
  have HP9 : Hid (Hashs w9 (.slice bo m d) hs) := Lib.hid (HP.out.pure t9)
  have HX9 : Hid (LentT w9 (.slice (some ⟨bx, 0, none⟩) n cx) ls) := Lib.hid (HX.out.pure t9)
  have HY9 : Hid (LentH w9 (.slice (some ⟨by_, 0, none⟩) m cy) hs) := Lib.hid (HY.out.pure t9)
  have H19 : Hid (Hashs w9 (.slice ra iv rc) IV) := Lib.hid (H1.out.pure t9)
  have H29 : Hid (Hashs w9 (.slice qa iv qc) IV) := Lib.hid (H2.out.pure t9)
  have D89 : Hid (w9.heap[g8]? = some (.cells (u8s old).toArray 28 (0, 0))) := Lib.hid (t9.obj D8.out (fun e => e))
  have D109 : Hid (w9.heap[g10]? = some (.cells (u8s root).toArray 28 (0, 0))) := Lib.hid (t9.obj D10.out (fun e => e))
  clear PT HL HP HX HY H1 H2 D8 D10
  have PT := Lib.hid PT9.out
  have HL := Lib.hid HL9.out
  have HP := Lib.hid HP9.out
  have HX := Lib.hid HX9.out
  have HY := Lib.hid HY9.out
  have H1 := Lib.hid H19.out
  have H2 := Lib.hid H29.out
  have D8 := Lib.hid D89.out
  have D10 := Lib.hid D109.out
  clear PT9 HL9 HP9 HX9 HY9 H19 H29 D89 D109
  refine hK.out _ _ (And.intro (range_of_row D8.out) (range_of_row D10.out)) ?_
  clear hK K t9
  try simp only [List.getElem_toArray, List.getElem_cons_succ, List.getElem_cons_zero, Act.put, List.setIfInBounds_toArray, List.set_cons_zero, List.set_cons_succ]
  refine wpAnyH_take (i := 29) (v := .bool true) rfl (by kernel_rfl) (by kernel_rfl) (by kernel_rfl) (fun _ _ _ h => h) (Or.inl ⟨by rfl, fun w hSw => by go_simp⟩) (And.intro (range_of_row D8.out) (range_of_row D10.out)) ?_
  simp only [List.getElem_toArray, List.getElem_cons_succ, List.getElem_cons_zero, Act.put, List.setIfInBounds_toArray, List.set_cons_zero, List.set_cons_succ]
  refine wpAnyH_take (i := 30) (v := .bool true) rfl (by kernel_rfl) (by kernel_rfl) (by kernel_rfl) (fun _ _ _ h => h) (Or.inl ⟨by rfl, fun w hSw => by go_simp⟩) (And.intro (range_of_row D8.out) (range_of_row D10.out)) ?_
  simp only [List.getElem_toArray, List.getElem_cons_succ, List.getElem_cons_zero, Act.put, List.setIfInBounds_toArray, List.set_cons_zero, List.set_cons_succ]
  refine wpAnyH_step (i := 31) (by kernel_rfl) rfl fun K hK => ?_
  go_simp
  refine (awake10 _).mono ?_
  rintro e w9 ⟨rfl, t9⟩
  have PT9 : Hid (Pure w w9) := Lib.hid (PT.out.pure t9)
  have HL9 : Hid (Texts w9 (.slice ao n c) ls) := Lib.hid (HL.out.pure t9)
  have HP9 : Hid (Hashs w9 (.slice bo m d) hs) := Lib.hid (HP.out.pure t9)
  have HX9 : Hid (LentT w9 (.slice (some ⟨bx, 0, none⟩) n cx) ls) := Lib.hid (HX.out.pure t9)
  have HY9 : Hid (LentH w9 (.slice (some ⟨by_, 0, none⟩) m cy) hs) := Lib.hid (HY.out.pure t9)
  have H19 : Hid (Hashs w9 (.slice ra iv rc) IV) := Lib.hid (H1.out.pure t9)
  have H29 : Hid (Hashs w9 (.slice qa iv qc) IV) := Lib.hid (H2.out.pure t9)
  have D89 : Hid (w9.heap[g8]? = some (.cells (u8s old).toArray 28 (0, 0))) := Lib.hid (t9.obj D8.out (fun e => e))
  have D109 : Hid (w9.heap[g10]? = some (.cells (u8s root).toArray 28 (0, 0))) := Lib.hid (t9.obj D10.out (fun e => e))
  clear PT HL HP HX HY H1 H2 D8 D10
  have PT := Lib.hid PT9.out
  have HL := Lib.hid HL9.out
  have HP := Lib.hid HP9.out
  have HX := Lib.hid HX9.out
  have HY := Lib.hid HY9.out
  have H1 := Lib.hid H19.out
  have H2 := Lib.hid H29.out
  have D8 := Lib.hid D89.out
  have D10 := Lib.hid D109.out
  clear PT9 HL9 HP9 HX9 HY9 H19 H29 D89 D109
  refine hK.out _ _ (And.intro (range_of_row D8.out) (range_of_row D10.out)) ?_
  clear hK K t9
  try simp only [List.getElem_toArray, List.getElem_cons_succ, List.getElem_cons_zero, Act.put, List.setIfInBounds_toArray, List.set_cons_zero, List.set_cons_succ]
  refine wpAnyH_take (i := 32) (v := .bool true) rfl (by kernel_rfl) (by kernel_rfl) (by kernel_rfl) (fun _ _ _ h => h) (Or.inl ⟨by rfl, fun w hSw => by go_simp⟩) (And.intro (range_of_row D8.out) (range_of_row D10.out)) ?_
  simp only [List.getElem_toArray, List.getElem_cons_succ, List.getElem_cons_zero, Act.put, List.setIfInBounds_toArray, List.set_cons_zero, List.set_cons_succ]
  refine wpAnyH_take (i := 33) (v := .bool true) rfl (by kernel_rfl) (by kernel_rfl) (by kernel_rfl) (fun _ _ _ h => h) (Or.inl ⟨by rfl, fun w hSw => by go_simp⟩) (And.intro (range_of_row D8.out) (range_of_row D10.out)) ?_
  simp only [List.getElem_toArray, List.getElem_cons_succ, List.getElem_cons_zero, Act.put, List.setIfInBounds_toArray, List.set_cons_zero, List.set_cons_succ]
  refine wpAnyH_done (by kernel_rfl) ?_ _
  go_wp2
  go_ret
  exact ⟨rfl, PT.out⟩
end Go.Proofs.Ytjbigghjbcjelaa
