/- Chapter 4, the program: a message's digits. -/
import Derived.Test.YtcfbmbhkdicpfaaSeq
import Derived.Test.YtcfbmbhkdicpfaaOtsF
namespace Go.Proofs.Ytcfbmbhkdicpfaa
open Go.RowKit

/-- A new variable of one cell that is written at once. -/
theorem new_cell (w : World) (v0 v : Value) (T : TypeId) : ((w.alloc (.cells #[v0] T)).setCell ⟨w.heap.size, 0, none⟩ v).heap[w.heap.size]? = some (.cells #[v] T (0, 0)) ∧ Pure w ((w.alloc (.cells #[v0] T)).setCell ⟨w.heap.size, 0, none⟩ v) ∧ ((w.alloc (.cells #[v0] T)).setCell ⟨w.heap.size, 0, none⟩ v).heap.size = w.heap.size + 1 := by
  refine ⟨heap_set_cell (heap_alloc_new w _), ?_, by simp [World.setCell]⟩
  exact ((Turn.refl (fun _ => False) w).alloc _).setCell (p := ⟨w.heap.size, 0, none⟩) (fun h => absurd h (Nat.lt_irrefl _)) v

set_option maxRecDepth 100000 in
set_option maxHeartbeats 4000000 in
theorem digits_4 (w : World) (q : List UInt8) (hq : q.length = 32) :
    Calls Try.prog 100 #[.agg #[.int .i64 4, .int .i64 67, .int .i64 4], .string (bstr q)] w fun e w' => ∃ r, e = .returned r ∧ w'.ownsRow 0 3 1 r 67 (intsN (digitsV 4 67 4 q)) ∧ Pure w w' := by
  go_enter Try.func100, Try.ntmps100
  go_wp2_with (refine wpList_boxV rfl 157 _ rfl [.int .i64 4, .int .i64 67, .int .i64 4] rfl ?_)
  intro gk w1 e1 c1 t1 s1
  have lk : w.heap.size ≤ gk := by omega
  clear e1
  have k0 : w1.cell? ⟨gk, 0, none⟩ = some (.int .i64 4) := by rw [cell_of_row w1 gk 0 _ _ _ c1]; rfl
  obtain ⟨wa, hwa⟩ : ∃ wa, wa = w1.alloc (.cells #[.int .i64 15] 3) := ⟨_, rfl⟩
  obtain ⟨wb, hwb⟩ : ∃ wb, wb = wa.alloc (.cells #[.slice none 0 0] 60) := ⟨_, rfl⟩
  obtain ⟨wc, hwc⟩ : ∃ wc, wc = wb.alloc (.cells #[.int .i64 0] 3) := ⟨_, rfl⟩
  have sa : wa.heap.size = gk + 2 := by rw [hwa]; simp [s1]
  have sb : wb.heap.size = gk + 3 := by rw [hwb]; simp [sa]
  have pa : Pure w1 wa := by rw [hwa]; exact (Turn.refl _ _).alloc _
  have pb : Pure wa wb := by rw [hwb]; exact (Turn.refl _ _).alloc _
  have pc : Pure wb wc := by rw [hwc]; exact (Turn.refl _ _).alloc _
  have ma : wa.heap[gk + 1]? = some (.cells #[.int .i64 15] 3 (0, 0)) := by rw [hwa, ← s1]; exact heap_alloc_new _ _
  have ob : wb.heap[gk + 2]? = some (.cells #[.slice none 0 0] 60 (0, 0)) := by rw [hwb, ← sa]; exact heap_alloc_new _ _
  have sc : wc.heap[gk + 3]? = some (.cells #[.int .i64 0] 3 (0, 0)) := by rw [hwc, ← sb]; exact heap_alloc_new _ _
  have hD : DigSt wc gk (gk + 1) (gk + 1 + 1) (gk + 1 + 1 + 1) 4 67 4 0 none 0 [] :=
    ⟨pc.obj (pb.obj (pa.obj c1 (fun e => e)) (fun e => e)) (fun e => e), pc.obj (pb.obj ma (fun e => e)) (fun e => e), sc, pc.obj ob (fun e => e), World.ownsRow_nil _ _ _ _, fun x hx => by simp [Value.ownBlock] at hx, by omega⟩
  have HD := Lib.hid hD
  have PT := Lib.hid (((t1.pure pa).pure pb).pure pc)
  have ha1 := hwa; have hb1 := hwb; have hc1 := hwc
  clear sa sb pa pb pc ma ob sc hD t1
  go_wp2_with fail
  rw [← ha1, ← hb1, ← hc1]
  clear ha1 hb1 hc1 hwa hwb hwc c1 s1 k0
  generalize hgm : gk + 1 = gm at *
  generalize hgo : gm + 1 = go at *
  generalize hgs : go + 1 = gs at *
  have lt : gk < gm ∧ gm < go ∧ go < gs ∧ w.heap.size ≤ go := by omega
  clear hgm hgo hgs
  have hq2 : ∀ i, i < 64 → i * 4 / 8 < q.length := fun i hi => by rw [hq]; omega
  refine (cutd_4 wc q 64 gk gm go gs 67 4 0 none 0 [] HD.out hq2 (by omega) (by omega) (by simp)).mono ?_
  rintro e w2 ⟨rfl, ⟨ao2, cc2, h2⟩, t2⟩
  simp only [Nat.zero_add, List.nil_append] at h2
  have hsl := sumV_le 4 q 64
  obtain ⟨L1, hL1⟩ : ∃ L1, L1 = (List.range 64).map (digV 4 q) := ⟨_, rfl⟩
  obtain ⟨S0, hS0⟩ : ∃ S0, S0 = sumV 4 q 64 := ⟨_, rfl⟩
  have hL1l : L1.length = 64 := by rw [hL1]; simp
  rw [← hL1, ← hS0] at h2
  rw [← hS0] at hsl
  have HD2 := Lib.hid h2; have PT2 := Lib.hid (PT.out.trans t2 fun x hx e => by omega : Pure w w2)
  have HLS := Lib.hid (And.intro hL1 hS0)
  have hS0b : S0 ≤ 100000 := by omega
  clear h2 t2 HD PT hL1 hS0 hsl hq2
  go_wp2_with fail
  have hbe := fun W => num_any ((S0 * 16 : Nat) : Int) 2 W (by omega) (by omega)
  rw [beI_nat] at hbe
  obtain ⟨T, hT⟩ : ∃ T, T = beB (S0 * 16) 2 := ⟨_, rfl⟩
  have hTl : T.length = 2 := by rw [hT]; exact beB_length _ _
  rw [← hT] at hbe
  have HBE := Lib.hid hbe; have HTT := Lib.hid hT
  have i5 : IntKind.i64.wrap ((S0 : Int) * 16) = ((S0 * 16 : Nat) : Int) := by rw [IntWalk.i64_in _ (by omega)]; omega
  have i6 : IntKind.i64.wrap (S0 : Int) = (S0 : Int) := IntWalk.i64_in _ (by omega)
  have i7 : ((S0 * 16 : Nat) : Int) = (S0 : Int) * 16 := by omega
  have x7 : IntKind.i64.wrap 3 = 3 := IntWalk.i64_in _ (by omega)
  clear hbe hT
  have k1 : w2.cell? ⟨gk, 1, none⟩ = some (.int .i64 67) := by rw [cell_of_row w2 gk 1 _ _ _ HD2.out.k_]; rfl
  have k2 : w2.cell? ⟨gk, 2, none⟩ = some (.int .i64 4) := by rw [cell_of_row w2 gk 2 _ _ _ HD2.out.k_]; rfl
  refine wp_region_held_drew (S := fun w' => w'.cell? ⟨gk, 1, none⟩ = some (.int .i64 67) ∧ w'.cell? ⟨gk, 2, none⟩ = some (.int .i64 4)) (by kernel_rfl) (show w2.drew.cell? ⟨gk, 1, none⟩ = some (.int .i64 67) ∧ w2.drew.cell? ⟨gk, 2, none⟩ = some (.int .i64 4) from ⟨k1, k2⟩) (fun hHeld => ?_)
  have HS := Lib.hid hHeld
  have HD3 := Lib.hid (HD2.out.pure ((Turn.refl (fun _ => False) w2).drew)); have PT3 := Lib.hid PT2.out.drew
  clear hHeld k1 k2 HD2 PT2
  generalize w2.drew = w3 at *
  refine wpAnyH_take (i := 0) (v := (.func (.func 140) #[] #[.pointer (some ⟨gk, 0, none⟩), .pointer (some ⟨gm, 0, none⟩), .pointer (some ⟨gs, 0, none⟩), .pointer (some ⟨go, 0, none⟩)])) rfl (by kernel_rfl) (by kernel_rfl) (by kernel_rfl) (fun _ _ _ h => h) (Or.inl ⟨by rfl, fun w hSw => by go_simp⟩) HS.out ?_
  simp only [AP]
  refine wpAnyH_take (i := 2) (v := .pointer (some ⟨gk, 2, none⟩)) rfl (by kernel_rfl) (by kernel_rfl) (by kernel_rfl) (fun _ _ _ h => h) (Or.inl ⟨by rfl, fun w hSw => by go_simp⟩) HS.out ?_
  simp only [AP]
  refine wpAnyH_take (i := 3) (v := .int .i64 4) rfl (by kernel_rfl) (by kernel_rfl) (by kernel_rfl) (fun _ _ _ h => h) (Or.inl ⟨by rfl, fun w hSw => by obtain ⟨h1, h2⟩ := hSw; go_simp⟩) HS.out ?_
  simp only [AP]
  refine wpAnyH_take (i := 6) (v := .pointer (some ⟨gk, 1, none⟩)) rfl (by kernel_rfl) (by kernel_rfl) (by kernel_rfl) (fun _ _ _ h => h) (Or.inl ⟨by rfl, fun w hSw => by go_simp⟩) HS.out ?_
  simp only [AP]
  refine wpAnyH_take (i := 7) (v := .int .i64 67) rfl (by kernel_rfl) (by kernel_rfl) (by kernel_rfl) (fun _ _ _ h => h) (Or.inl ⟨by rfl, fun w hSw => by obtain ⟨h1, h2⟩ := hSw; go_simp⟩) HS.out ?_
  simp only [AP]
  refine wpAnyH_take (i := 8) (v := .int .i64 64) rfl (by kernel_rfl) (by kernel_rfl) (by kernel_rfl) (fun _ _ _ h => h) (Or.inl ⟨by rfl, fun w hSw => by go_simp⟩) HS.out ?_
  simp only [AP]
  refine wpAnyH_take (i := 9) (v := .int .i64 3) rfl (by kernel_rfl) (by kernel_rfl) (by kernel_rfl) (fun _ _ _ h => h) (Or.inl ⟨by rfl, fun w hSw => by go_simp⟩) HS.out ?_
  simp only [AP]
  refine wpAnyH_step (i := 1) (by kernel_rfl) rfl fun K hK => ?_
  have s0 := HD3.out.s0
  go_simp
  refine hK.out _ _ HS.out ?_
  clear hK K s0
  try simp only [AP]
  refine wpAnyH_take (i := 4) (v := .int .i64 ((S0 * 16 : Nat) : Int)) rfl (by kernel_rfl) (by kernel_rfl) (by kernel_rfl) (fun _ _ _ h => h) (Or.inl ⟨by rfl, fun w hSw => by go_simp⟩) HS.out ?_
  simp only [AP]
  refine wpAnyH_step (i := 5) (by kernel_rfl) rfl fun K hK => ?_
  go_simp
  refine (HBE.out _).mono ?_
  rintro e w4 ⟨rfl, t4⟩
  have HD4 := Lib.hid (HD3.out.pure t4); have PT4 := Lib.hid (PT3.out.pure t4)
  have HS4 := Lib.hid (And.intro (t4.cell HS.out.1 (fun e => e)) (t4.cell HS.out.2 (fun e => e)))
  refine hK.out _ _ HS4.out ?_
  clear hK K t4 HD3 PT3 HS HBE
  try simp only [AP]
  refine wpAnyH_step (i := 10) (by kernel_rfl) rfl fun K hK => ?_
  go_simp
  have hq3 : ∀ i, i < 3 → i * 4 / 8 < T.length := fun i hi => by rw [hTl]; omega
  refine (cutd_4 w4 T 3 gk gm go gs 67 4 S0 ao2 cc2 L1 HD4.out hq3 (by omega) (by omega) (by omega)).mono ?_
  rintro e w5 ⟨rfl, ⟨ao5, cc5, h5⟩, t5⟩
  have HD5 := Lib.hid h5; have PT5 := Lib.hid (PT4.out.trans t5 fun x hx e => by omega : Pure w w5)
  have HS5 := Lib.hid (And.intro (t5.cell HS4.out.1 (show ¬ go ≤ gk by omega)) (t5.cell HS4.out.2 (show ¬ go ≤ gk by omega)))
  refine hK.out _ _ HS5.out ?_
  clear hK K h5 t5 HD4 PT4 HS4 hq3
  try simp only [AP]
  refine wpAnyH_done (by kernel_rfl) ?_ _
  have hdv : L1 ++ (List.range 3).map (digV 4 T) = digitsV 4 67 4 q := by rw [digitsV, HLS.out.1, HTT.out, HLS.out.2]
  have hlen : (L1 ++ (List.range 3).map (digV 4 T)).length = 67 := by simp [hL1l]
  rw [hdv] at HD5 hlen
  have o5 := HD5.out.o0
  generalize hLd : digitsV 4 67 4 q = L at HD5 hlen o5
  have HLD := Lib.hid hLd
  have hrow := HD5.out.row
  rw [hlen] at o5 hrow
  have HROW := Lib.hid hrow
  clear hdv hlen hLd hrow
  go_wp2
  go_ret
  exact ⟨_, rfl, by rw [HLD.out]; exact HROW.out, PT5.out⟩

set_option maxRecDepth 100000 in
set_option maxHeartbeats 4000000 in
theorem digits_8 (w : World) (q : List UInt8) (hq : q.length = 32) :
    Calls Try.prog 100 #[.agg #[.int .i64 8, .int .i64 34, .int .i64 0], .string (bstr q)] w fun e w' => ∃ r, e = .returned r ∧ w'.ownsRow 0 3 1 r 34 (intsN (digitsV 8 34 0 q)) ∧ Pure w w' := by
  go_enter Try.func100, Try.ntmps100
  go_wp2_with (refine wpList_boxV rfl 157 _ rfl [.int .i64 8, .int .i64 34, .int .i64 0] rfl ?_)
  intro gk w1 e1 c1 t1 s1
  have lk : w.heap.size ≤ gk := by omega
  clear e1
  have k0 : w1.cell? ⟨gk, 0, none⟩ = some (.int .i64 8) := by rw [cell_of_row w1 gk 0 _ _ _ c1]; rfl
  obtain ⟨wa, hwa⟩ : ∃ wa, wa = w1.alloc (.cells #[.int .i64 255] 3) := ⟨_, rfl⟩
  obtain ⟨wb, hwb⟩ : ∃ wb, wb = wa.alloc (.cells #[.slice none 0 0] 60) := ⟨_, rfl⟩
  obtain ⟨wc, hwc⟩ : ∃ wc, wc = wb.alloc (.cells #[.int .i64 0] 3) := ⟨_, rfl⟩
  have sa : wa.heap.size = gk + 2 := by rw [hwa]; simp [s1]
  have sb : wb.heap.size = gk + 3 := by rw [hwb]; simp [sa]
  have pa : Pure w1 wa := by rw [hwa]; exact (Turn.refl _ _).alloc _
  have pb : Pure wa wb := by rw [hwb]; exact (Turn.refl _ _).alloc _
  have pc : Pure wb wc := by rw [hwc]; exact (Turn.refl _ _).alloc _
  have ma : wa.heap[gk + 1]? = some (.cells #[.int .i64 255] 3 (0, 0)) := by rw [hwa, ← s1]; exact heap_alloc_new _ _
  have ob : wb.heap[gk + 2]? = some (.cells #[.slice none 0 0] 60 (0, 0)) := by rw [hwb, ← sa]; exact heap_alloc_new _ _
  have sc : wc.heap[gk + 3]? = some (.cells #[.int .i64 0] 3 (0, 0)) := by rw [hwc, ← sb]; exact heap_alloc_new _ _
  have hD : DigSt wc gk (gk + 1) (gk + 1 + 1) (gk + 1 + 1 + 1) 8 34 0 0 none 0 [] :=
    ⟨pc.obj (pb.obj (pa.obj c1 (fun e => e)) (fun e => e)) (fun e => e), pc.obj (pb.obj ma (fun e => e)) (fun e => e), sc, pc.obj ob (fun e => e), World.ownsRow_nil _ _ _ _, fun x hx => by simp [Value.ownBlock] at hx, by omega⟩
  have HD := Lib.hid hD
  have PT := Lib.hid (((t1.pure pa).pure pb).pure pc)
  have ha1 := hwa; have hb1 := hwb; have hc1 := hwc
  clear sa sb pa pb pc ma ob sc hD t1
  go_wp2_with fail
  rw [← ha1, ← hb1, ← hc1]
  clear ha1 hb1 hc1 hwa hwb hwc c1 s1 k0
  generalize hgm : gk + 1 = gm at *
  generalize hgo : gm + 1 = go at *
  generalize hgs : go + 1 = gs at *
  have lt : gk < gm ∧ gm < go ∧ go < gs ∧ w.heap.size ≤ go := by omega
  clear hgm hgo hgs
  have hq2 : ∀ i, i < 32 → i * 8 / 8 < q.length := fun i hi => by rw [hq]; omega
  refine (cutd_8 wc q 32 gk gm go gs 34 0 0 none 0 [] HD.out hq2 (by omega) (by omega) (by simp)).mono ?_
  rintro e w2 ⟨rfl, ⟨ao2, cc2, h2⟩, t2⟩
  simp only [Nat.zero_add, List.nil_append] at h2
  have hsl := sumV_le 8 q 32
  obtain ⟨L1, hL1⟩ : ∃ L1, L1 = (List.range 32).map (digV 8 q) := ⟨_, rfl⟩
  obtain ⟨S0, hS0⟩ : ∃ S0, S0 = sumV 8 q 32 := ⟨_, rfl⟩
  have hL1l : L1.length = 32 := by rw [hL1]; simp
  rw [← hL1, ← hS0] at h2
  rw [← hS0] at hsl
  have HD2 := Lib.hid h2; have PT2 := Lib.hid (PT.out.trans t2 fun x hx e => by omega : Pure w w2)
  have HLS := Lib.hid (And.intro hL1 hS0)
  have hS0b : S0 ≤ 100000 := by omega
  clear h2 t2 HD PT hL1 hS0 hsl hq2
  go_wp2_with fail
  have hbe := fun W => num_any ((S0 : Nat) : Int) 2 W (by omega) (by omega)
  rw [beI_nat] at hbe
  obtain ⟨T, hT⟩ : ∃ T, T = beB (S0) 2 := ⟨_, rfl⟩
  have hTl : T.length = 2 := by rw [hT]; exact beB_length _ _
  rw [← hT] at hbe
  have HBE := Lib.hid hbe; have HTT := Lib.hid hT
  have i5 : IntKind.i64.wrap ((S0 : Int) * 1) = ((S0 * 1 : Nat) : Int) := by rw [IntWalk.i64_in _ (by omega)]; omega
  have i6 : IntKind.i64.wrap (S0 : Int) = (S0 : Int) := IntWalk.i64_in _ (by omega)
  have i7 : ((S0 * 1 : Nat) : Int) = (S0 : Int) * 1 := by omega
  have x7 : IntKind.i64.wrap 2 = 2 := IntWalk.i64_in _ (by omega)
  clear hbe hT
  have k1 : w2.cell? ⟨gk, 1, none⟩ = some (.int .i64 34) := by rw [cell_of_row w2 gk 1 _ _ _ HD2.out.k_]; rfl
  have k2 : w2.cell? ⟨gk, 2, none⟩ = some (.int .i64 0) := by rw [cell_of_row w2 gk 2 _ _ _ HD2.out.k_]; rfl
  refine wp_region_held_drew (S := fun w' => w'.cell? ⟨gk, 1, none⟩ = some (.int .i64 34) ∧ w'.cell? ⟨gk, 2, none⟩ = some (.int .i64 0)) (by kernel_rfl) (show w2.drew.cell? ⟨gk, 1, none⟩ = some (.int .i64 34) ∧ w2.drew.cell? ⟨gk, 2, none⟩ = some (.int .i64 0) from ⟨k1, k2⟩) (fun hHeld => ?_)
  have HS := Lib.hid hHeld
  have HD3 := Lib.hid (HD2.out.pure ((Turn.refl (fun _ => False) w2).drew)); have PT3 := Lib.hid PT2.out.drew
  clear hHeld k1 k2 HD2 PT2
  generalize w2.drew = w3 at *
  refine wpAnyH_take (i := 0) (v := (.func (.func 140) #[] #[.pointer (some ⟨gk, 0, none⟩), .pointer (some ⟨gm, 0, none⟩), .pointer (some ⟨gs, 0, none⟩), .pointer (some ⟨go, 0, none⟩)])) rfl (by kernel_rfl) (by kernel_rfl) (by kernel_rfl) (fun _ _ _ h => h) (Or.inl ⟨by rfl, fun w hSw => by go_simp⟩) HS.out ?_
  simp only [AP]
  refine wpAnyH_take (i := 2) (v := .pointer (some ⟨gk, 2, none⟩)) rfl (by kernel_rfl) (by kernel_rfl) (by kernel_rfl) (fun _ _ _ h => h) (Or.inl ⟨by rfl, fun w hSw => by go_simp⟩) HS.out ?_
  simp only [AP]
  refine wpAnyH_take (i := 3) (v := .int .i64 0) rfl (by kernel_rfl) (by kernel_rfl) (by kernel_rfl) (fun _ _ _ h => h) (Or.inl ⟨by rfl, fun w hSw => by obtain ⟨h1, h2⟩ := hSw; go_simp⟩) HS.out ?_
  simp only [AP]
  refine wpAnyH_take (i := 6) (v := .pointer (some ⟨gk, 1, none⟩)) rfl (by kernel_rfl) (by kernel_rfl) (by kernel_rfl) (fun _ _ _ h => h) (Or.inl ⟨by rfl, fun w hSw => by go_simp⟩) HS.out ?_
  simp only [AP]
  refine wpAnyH_take (i := 7) (v := .int .i64 34) rfl (by kernel_rfl) (by kernel_rfl) (by kernel_rfl) (fun _ _ _ h => h) (Or.inl ⟨by rfl, fun w hSw => by obtain ⟨h1, h2⟩ := hSw; go_simp⟩) HS.out ?_
  simp only [AP]
  refine wpAnyH_take (i := 8) (v := .int .i64 32) rfl (by kernel_rfl) (by kernel_rfl) (by kernel_rfl) (fun _ _ _ h => h) (Or.inl ⟨by rfl, fun w hSw => by go_simp⟩) HS.out ?_
  simp only [AP]
  refine wpAnyH_take (i := 9) (v := .int .i64 2) rfl (by kernel_rfl) (by kernel_rfl) (by kernel_rfl) (fun _ _ _ h => h) (Or.inl ⟨by rfl, fun w hSw => by go_simp⟩) HS.out ?_
  simp only [AP]
  refine wpAnyH_step (i := 1) (by kernel_rfl) rfl fun K hK => ?_
  have s0 := HD3.out.s0
  go_simp
  refine hK.out _ _ HS.out ?_
  clear hK K s0
  try simp only [AP]
  refine wpAnyH_take (i := 4) (v := .int .i64 ((S0 : Nat) : Int)) rfl (by kernel_rfl) (by kernel_rfl) (by kernel_rfl) (fun _ _ _ h => h) (Or.inl ⟨by rfl, fun w hSw => by go_simp⟩) HS.out ?_
  simp only [AP]
  refine wpAnyH_step (i := 5) (by kernel_rfl) rfl fun K hK => ?_
  go_simp
  refine (HBE.out _).mono ?_
  rintro e w4 ⟨rfl, t4⟩
  have HD4 := Lib.hid (HD3.out.pure t4); have PT4 := Lib.hid (PT3.out.pure t4)
  have HS4 := Lib.hid (And.intro (t4.cell HS.out.1 (fun e => e)) (t4.cell HS.out.2 (fun e => e)))
  refine hK.out _ _ HS4.out ?_
  clear hK K t4 HD3 PT3 HS HBE
  try simp only [AP]
  refine wpAnyH_step (i := 10) (by kernel_rfl) rfl fun K hK => ?_
  go_simp
  have hq3 : ∀ i, i < 2 → i * 8 / 8 < T.length := fun i hi => by rw [hTl]; omega
  refine (cutd_8 w4 T 2 gk gm go gs 34 0 S0 ao2 cc2 L1 HD4.out hq3 (by omega) (by omega) (by omega)).mono ?_
  rintro e w5 ⟨rfl, ⟨ao5, cc5, h5⟩, t5⟩
  have HD5 := Lib.hid h5; have PT5 := Lib.hid (PT4.out.trans t5 fun x hx e => by omega : Pure w w5)
  have HS5 := Lib.hid (And.intro (t5.cell HS4.out.1 (show ¬ go ≤ gk by omega)) (t5.cell HS4.out.2 (show ¬ go ≤ gk by omega)))
  refine hK.out _ _ HS5.out ?_
  clear hK K h5 t5 HD4 PT4 HS4 hq3
  try simp only [AP]
  refine wpAnyH_done (by kernel_rfl) ?_ _
  have hdv : L1 ++ (List.range 2).map (digV 8 T) = digitsV 8 34 0 q := by rw [digitsV, HLS.out.1, HTT.out, HLS.out.2]; simp
  have hlen : (L1 ++ (List.range 2).map (digV 8 T)).length = 34 := by simp [hL1l]
  rw [hdv] at HD5 hlen
  have o5 := HD5.out.o0
  generalize hLd : digitsV 8 34 0 q = L at HD5 hlen o5
  have HLD := Lib.hid hLd
  have hrow := HD5.out.row
  rw [hlen] at o5 hrow
  have HROW := Lib.hid hrow
  clear hdv hlen hLd hrow
  go_wp2
  go_ret
  exact ⟨_, rfl, by rw [HLD.out]; exact HROW.out, PT5.out⟩
end Go.Proofs.Ytcfbmbhkdicpfaa
