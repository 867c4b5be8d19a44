/- Chapter 4, the program: a message's digits, the function that cuts them. -/
import Derived.Test.YtmifchdmlbcclaaOtsE
namespace Go.Proofs.Ytmifchdmlbcclaa
open Go.RowKit

/-- What the function that cuts digits holds: the kind, the greatest digit, the sum, the digits. -/
structure DigSt (w : World) (gk gm go gs wd p ls S : Nat) (ao : Option Addr) (cc : Nat) (L : List Nat) : Prop where
  k_ : w.heap[gk]? = some (.cells #[.int .i64 (wd : Int), .int .i64 (p : Int), .int .i64 (ls : Int)] 64 (0, 0))
  m_ : w.heap[gm]? = some (.cells #[.int .i64 ((2 ^ wd - 1 : Nat) : Int)] 3 (0, 0))
  s_ : w.heap[gs]? = some (.cells #[.int .i64 (S : Int)] 3 (0, 0))
  o_ : w.heap[go]? = some (.cells #[.slice ao L.length cc] 77 (0, 0))
  row : w.ownsRow 0 3 1 (.slice ao L.length cc) L.length (intsN L)
  low : ∀ q, (Value.slice ao L.length cc).ownBlock = some q → gs < q
  lt : gk < gm ∧ gm < go ∧ go < gs
theorem DigSt.pure {w w' : World} {gk gm go gs wd p ls S : Nat} {ao : Option Addr} {cc : Nat} {L : List Nat} (h : DigSt w gk gm go gs wd p ls S ao cc L) (t : Pure w w') : DigSt w' gk gm go gs wd p ls S ao cc L :=
  ⟨t.obj h.k_ (fun e => e), t.obj h.m_ (fun e => e), t.obj h.s_ (fun e => e), t.obj h.o_ (fun e => e), t.own h.row (fun _ _ e => e), h.low, h.lt⟩
theorem DigSt.k0 {w : World} {gk gm go gs wd p ls S : Nat} {ao : Option Addr} {cc : Nat} {L : List Nat} (h : DigSt w gk gm go gs wd p ls S ao cc L) : w.cell? ⟨gk, 0, none⟩ = some (.int .i64 (wd : Int)) := by rw [cell_of_row w gk 0 _ _ _ h.k_]; rfl
theorem DigSt.m0 {w : World} {gk gm go gs wd p ls S : Nat} {ao : Option Addr} {cc : Nat} {L : List Nat} (h : DigSt w gk gm go gs wd p ls S ao cc L) : w.cell? ⟨gm, 0, none⟩ = some (.int .i64 ((2 ^ wd - 1 : Nat) : Int)) := by rw [cell_of_row w gm 0 _ _ _ h.m_]; rfl
theorem DigSt.s0 {w : World} {gk gm go gs wd p ls S : Nat} {ao : Option Addr} {cc : Nat} {L : List Nat} (h : DigSt w gk gm go gs wd p ls S ao cc L) : w.cell? ⟨gs, 0, none⟩ = some (.int .i64 (S : Int)) := by rw [cell_of_row w gs 0 _ _ _ h.s_]; rfl
theorem DigSt.o0 {w : World} {gk gm go gs wd p ls S : Nat} {ao : Option Addr} {cc : Nat} {L : List Nat} (h : DigSt w gk gm go gs wd p ls S ao cc L) : w.cell? ⟨go, 0, none⟩ = some (.slice ao L.length cc) := by rw [cell_of_row w go 0 _ _ _ h.o_]; rfl
/-- The sum is written. -/
theorem DigSt.setS {w : World} {gk gm go gs wd p ls S : Nat} {ao : Option Addr} {cc : Nat} {L : List Nat} (h : DigSt w gk gm go gs wd p ls S ao cc L) (S' : Nat) :
    DigSt (w.setCell ⟨gs, 0, none⟩ (.int .i64 (S' : Int))) gk gm go gs wd p ls S' ao cc L ∧ Turn (fun k => go ≤ k) w (w.setCell ⟨gs, 0, none⟩ (.int .i64 (S' : Int))) := by
  have t : Turn (fun k => k = gs) w (w.setCell ⟨gs, 0, none⟩ (.int .i64 (S' : Int))) := (Turn.refl (fun k => k = gs) w).setCell (p := ⟨gs, 0, none⟩) (fun _ => rfl) _
  obtain ⟨l1, l2, l3⟩ := h.lt
  exact ⟨⟨t.obj h.k_ (by omega), t.obj h.m_ (by omega), heap_set_cell h.s_, t.obj h.o_ (by omega), t.own h.row (fun q hq e => by have := h.low q hq; omega), h.low, h.lt⟩, t.mono fun k _ e => by omega⟩
/-- The digits are written. -/
theorem DigSt.setO {w w1 : World} {gk gm go gs wd p ls S : Nat} {ao : Option Addr} {cc : Nat} {L : List Nat} (h : DigSt w gk gm go gs wd p ls S ao cc L) (t : Turn (fun k => gs < k) w w1) {ao' : Option Addr} {cc' : Nat} {L' : List Nat} (hr : w1.ownsRow 0 3 1 (.slice ao' L'.length cc') L'.length (intsN L'))
    (hl : ∀ q, (Value.slice ao' L'.length cc').ownBlock = some q → gs < q) :
    DigSt (w1.setCell ⟨go, 0, none⟩ (.slice ao' L'.length cc')) gk gm go gs wd p ls S ao' cc' L' ∧ Turn (fun k => go ≤ k) w (w1.setCell ⟨go, 0, none⟩ (.slice ao' L'.length cc')) := by
  obtain ⟨l1, l2, l3⟩ := h.lt
  have t2 : Turn (fun k => k = go) w1 (w1.setCell ⟨go, 0, none⟩ (.slice ao' L'.length cc')) := (Turn.refl (fun k => k = go) w1).setCell (p := ⟨go, 0, none⟩) (fun _ => rfl) _
  have ho := t.obj h.o_ (by omega)
  exact ⟨⟨t2.obj (t.obj h.k_ (by omega)) (by omega), t2.obj (t.obj h.m_ (by omega)) (by omega), t2.obj (t.obj h.s_ (by omega)) (by omega), heap_set_cell ho, t2.own hr (fun q hq e => by have := hl q hq; omega), hl, h.lt⟩,
    (t.mono (S' := fun k => go ≤ k) fun k _ e => by omega).trans t2 fun k _ e => by omega⟩

set_option maxRecDepth 100000 in
set_option maxHeartbeats 4000000 in
theorem cutd_4 (w : World) (s : List UInt8) (many gk gm go gs p ls S : Nat) (ao : Option Addr) (cc : Nat) (L : List Nat) (h : DigSt w gk gm go gs 4 p ls S ao cc L) (hs : ∀ i, i < many → i * 4 / 8 < s.length) (hm : many ≤ 64) (hS : S ≤ 100000) (hL : L.length ≤ 500) :
    Calls Try.prog 68 #[.string (bstr s), .int .i64 (many : Int), .pointer (some ⟨gk, 0, none⟩), .pointer (some ⟨gm, 0, none⟩), .pointer (some ⟨gs, 0, none⟩), .pointer (some ⟨go, 0, none⟩)] w fun e w' => e = .returned (.tuple #[]) ∧ (∃ ao' cc', DigSt w' gk gm go gs 4 p ls (S + sumV 4 s many) ao' cc' (L ++ (List.range many).map (digV 4 s))) ∧ Turn (fun k => go ≤ k) w w' := by
  have H := Lib.hid h
  have HSL := Lib.hid hs
  have hlt := h.lt
  clear h hs
  go_enter Try.func68, Try.ntmps68
  go_wp2
  go_loopw [8, 9, 10, 12] (fun _ _ _ i wr => ∃ (k : Nat) (ao' : Option Addr) (cc' : Nat), k ≤ many ∧ i = .int .i64 (k : Int) ∧ Hid (DigSt wr gk gm go gs 4 p ls (S + sumV 4 s k) ao' cc' (L ++ (List.range k).map (digV 4 s))) ∧ Hid (Turn (fun k => go ≤ k) w wr)) (fun _ _ _ i _ => many - (intOf i).toNat)
  case atStart => exact ⟨0, ao, cc, by omega, rfl, Lib.hid (by simpa [sumV] using H.out), Lib.hid (Turn.refl _ _)⟩
  case round =>
    obtain ⟨k, ao', cc', hk, rfl, HD, HT⟩ := hrel
    by_cases hlk : k < many
    · have q1 : (k : Int) < many := by omega
      have hi := HSL.out k hlk
      obtain ⟨at_, hat⟩ : ∃ a, a = k * 4 := ⟨_, rfl⟩
      obtain ⟨k8, hk8⟩ : ∃ x, x = at_ / 8 := ⟨_, rfl⟩
      obtain ⟨r, hr⟩ : ∃ r, r = at_ % 8 := ⟨_, rfl⟩
      have hatl : at_ ≤ 1000 := by omega
      rw [← hat, ← hk8] at hi
      have ix := fun W => index_bstr W s (k8 : Int) k8 rfl hi
      have hb := (s.getD k8 0).toNat_lt
      have hd : digV 4 s k = (s.getD k8 0).toNat / 2 ^ (8 - 4 - r) % 2 ^ 4 := by rw [digV, ← hat, ← hk8, ← hr]
      have hrw : r + 4 ≤ 8 := by omega
      obtain ⟨c, hc⟩ : ∃ c, c = (s.getD k8 0).toNat := ⟨_, rfl⟩
      rw [← hc] at ix hb hd
      obtain ⟨t, ht⟩ : ∃ t, t = 8 - 4 - r := ⟨_, rfl⟩
      rw [← ht] at hd
      obtain ⟨y, hy⟩ : ∃ y, y = c / 2 ^ t := ⟨_, rfl⟩
      rw [← hy] at hd
      have hyl : y < 256 := by rw [hy]; exact Nat.lt_of_le_of_lt (Nat.div_le_self _ _) hb
      have hand := and_low y 4 (by omega) hyl
      rw [← hd] at hand
      have hdl := digV_lt 4 s k
      have hsv : sumV 4 s (k + 1) = sumV 4 s k + (16 - 1 - digV 4 s k) := rfl
      have hsl := sumV_le 4 s k
      have hra : L ++ (List.range (k + 1)).map (digV 4 s) = (L ++ (List.range k).map (digV 4 s)) ++ [digV 4 s k] := by rw [List.range_succ, List.map_append, List.append_assoc]; rfl
      obtain ⟨D, hD⟩ : ∃ D, D = digV 4 s k := ⟨_, rfl⟩
      rw [← hD] at hand hdl hsv hra
      obtain ⟨S0, hS0⟩ : ∃ S0, S0 = S + sumV 4 s k := ⟨_, rfl⟩
      obtain ⟨S1, hS1⟩ : ∃ S1, S1 = S + sumV 4 s (k + 1) := ⟨_, rfl⟩
      obtain ⟨L0, hL0⟩ : ∃ L0, L0 = L ++ (List.range k).map (digV 4 s) := ⟨_, rfl⟩
      have hL0l : L0.length ≤ 600 := by rw [hL0]; simp; omega
      have hS1e : S1 = S0 + (15 - D) := by omega
      rw [← hS0, ← hL0] at HD
      rw [← hL0] at hra
      have hSb : S0 ≤ 200000 := by omega
      have e1 : (at_ : Int).tdiv 8 = (k8 : Int) := by rw [Int.tdiv_eq_ediv_of_nonneg (by omega)]; omega
      have e2 : (at_ : Int).tmod 8 = (r : Int) := by rw [Int.tmod_eq_emod_of_nonneg (by omega)]; omega
      have e3 : (c : Int) / 2 ^ t = (y : Int) := by rw [hy, Int.natCast_ediv, Int.natCast_pow]; rfl
      have e4 : (k : Int) * 4 = (at_ : Int) := by omega
      have wa : IntKind.i64.wrap (at_ : Int) = at_ := IntWalk.i64_in _ (by omega)
      have wk : IntKind.i64.wrap (k8 : Int) = k8 := IntWalk.i64_in _ (by omega)
      have wr_ : IntKind.i64.wrap (r : Int) = r := IntWalk.i64_in _ (by omega)
      have wc : IntKind.i64.wrap (c : Int) = c := IntWalk.i64_in _ (by omega)
      have wy : IntKind.i64.wrap (y : Int) = y := IntWalk.i64_in _ (by omega)
      have wt : IntKind.i64.wrap (t : Int) = t := IntWalk.i64_in _ (by omega)
      have x1 : IntKind.i64.wrap 4 = 4 := IntWalk.i64_in _ (by omega)
      have x2 : IntKind.i64.wrap (4 - (r : Int)) = (t : Int) := by rw [IntWalk.i64_in _ (by omega)]; omega
      have x3 : IntKind.i64.wrap (-(r : Int)) = (-(r : Int)) := IntWalk.i64_in _ (by omega)
      have x4 := True.intro
      have hand : bits .and .i64 (y : Int) 15 = (D : Int) := hand
      have i1 : IntKind.i64.wrap ((k : Int) + 1) = ((k + 1 : Nat) : Int) := by rw [IntWalk.i64_in _ (by omega)]; omega
      have i2 : IntKind.i64.wrap (15 - (D : Int)) = ((15 - D : Nat) : Int) := by rw [IntWalk.i64_in _ (by omega)]; omega
      have i3 : IntKind.i64.wrap ((S0 : Int) + ((15 - D : Nat) : Int)) = (S1 : Int) := by rw [IntWalk.i64_in _ (by omega)]; omega
      have t8 : t ≤ 8 := by omega
      have HE := Lib.hid (And.intro hS0 (And.intro hS1 (And.intro hL0 (And.intro hra hS1e))))
      clear hat hk8 hr hd hc ht hy hsv hsl hD hS0 hS1 hL0 hra hS1e hrw
      have c0 := HD.out.k0
      have m0 : wr.cell? ⟨gm, 0, none⟩ = some (.int .i64 15) := HD.out.m0
      have s0 := HD.out.s0
      have o0 := HD.out.o0
      have c0 : wr.cell? ⟨gk, 0, none⟩ = some (.int .i64 4) := c0
      go_wp2_with fail
      refine wp_region_held_drew (S := fun w' => w'.cell? ⟨gk, 0, none⟩ = some (.int .i64 4) ∧ w'.cell? ⟨gm, 0, none⟩ = some (.int .i64 15)) (by kernel_rfl) (show wr.drew.cell? ⟨gk, 0, none⟩ = some (.int .i64 4) ∧ wr.drew.cell? ⟨gm, 0, none⟩ = some (.int .i64 15) from ⟨c0, m0⟩) (fun hHeld => ?_)
      have HS := Lib.hid hHeld
      have HD2 := Lib.hid (HD.out.pure ((Turn.refl (fun _ => False) wr).drew)); have HT2 := Lib.hid HT.out.drew
      clear hHeld c0 m0 s0 o0 HD HT
      generalize wr.drew = w2 at *
      refine wpAnyH_take (i := 0) (v := .string (bstr s)) rfl (by kernel_rfl) (by kernel_rfl) (by kernel_rfl) (fun _ _ _ h => h) (Or.inl ⟨by rfl, fun w hSw => by go_simp⟩) HS.out ?_
      simp only [List.getElem_toArray, List.getElem_cons_zero, Act.put, List.setIfInBounds_toArray, List.set_cons_zero, List.set_cons_succ]
      refine wpAnyH_take (i := 1) (v := .int .i64 (at_ : Int)) rfl (by kernel_rfl) (by kernel_rfl) (by kernel_rfl) (fun _ _ _ h => h) (Or.inl ⟨by rfl, fun w hSw => by go_simp⟩) HS.out ?_
      simp only [List.getElem_toArray, List.getElem_cons_succ, List.getElem_cons_zero, Act.put, List.setIfInBounds_toArray, List.set_cons_zero, List.set_cons_succ]
      refine wpAnyH_take (i := 2) (v := .int .i64 (k8 : Int)) rfl (by kernel_rfl) (by kernel_rfl) (by kernel_rfl) (fun _ _ _ h => h) (Or.inl ⟨by rfl, fun w hSw => by go_simp⟩) HS.out ?_
      simp only [List.getElem_toArray, List.getElem_cons_succ, List.getElem_cons_zero, Act.put, List.setIfInBounds_toArray, List.set_cons_zero, List.set_cons_succ]
      refine wpAnyH_take (i := 3) (v := .int .u8 (c : Int)) rfl (by kernel_rfl) (by kernel_rfl) (by kernel_rfl) (fun _ _ _ h => h) (Or.inl ⟨by rfl, fun w hSw => by go_simp⟩) HS.out ?_
      simp only [List.getElem_toArray, List.getElem_cons_succ, List.getElem_cons_zero, Act.put, List.setIfInBounds_toArray, List.set_cons_zero, List.set_cons_succ]
      refine wpAnyH_take (i := 4) (v := .int .i64 (c : Int)) rfl (by kernel_rfl) (by kernel_rfl) (by kernel_rfl) (fun _ _ _ h => h) (Or.inl ⟨by rfl, fun w hSw => by go_simp⟩) HS.out ?_
      simp only [List.getElem_toArray, List.getElem_cons_succ, List.getElem_cons_zero, Act.put, List.setIfInBounds_toArray, List.set_cons_zero, List.set_cons_succ]
      refine wpAnyH_take (i := 5) (v := .pointer (some ⟨gk, 0, none⟩)) rfl (by kernel_rfl) (by kernel_rfl) (by kernel_rfl) (fun _ _ _ h => h) (Or.inl ⟨by rfl, fun w hSw => by go_simp⟩) HS.out ?_
      simp only [List.getElem_toArray, List.getElem_cons_succ, List.getElem_cons_zero, Act.put, List.setIfInBounds_toArray, List.set_cons_zero, List.set_cons_succ]
      refine wpAnyH_take (i := 6) (v := .int .i64 4) rfl (by kernel_rfl) (by kernel_rfl) (by kernel_rfl) (fun _ _ _ h => h) (Or.inl ⟨by rfl, fun w hSw => by obtain ⟨h1, h2⟩ := hSw; go_simp⟩) HS.out ?_
      simp only [List.getElem_toArray, List.getElem_cons_succ, List.getElem_cons_zero, Act.put, List.setIfInBounds_toArray, List.set_cons_zero, List.set_cons_succ]
      refine wpAnyH_take (i := 7) (v := .int .i64 4) rfl (by kernel_rfl) (by kernel_rfl) (by kernel_rfl) (fun _ _ _ h => h) (Or.inl ⟨by rfl, fun w hSw => by go_simp⟩) HS.out ?_
      simp only [List.getElem_toArray, List.getElem_cons_succ, List.getElem_cons_zero, Act.put, List.setIfInBounds_toArray, List.set_cons_zero, List.set_cons_succ]
      refine wpAnyH_take (i := 8) (v := .int .i64 (at_ : Int)) rfl (by kernel_rfl) (by kernel_rfl) (by kernel_rfl) (fun _ _ _ h => h) (Or.inl ⟨by rfl, fun w hSw => by go_simp⟩) HS.out ?_
      simp only [List.getElem_toArray, List.getElem_cons_succ, List.getElem_cons_zero, Act.put, List.setIfInBounds_toArray, List.set_cons_zero, List.set_cons_succ]
      refine wpAnyH_take (i := 9) (v := .int .i64 (r : Int)) rfl (by kernel_rfl) (by kernel_rfl) (by kernel_rfl) (fun _ _ _ h => h) (Or.inl ⟨by rfl, fun w hSw => by go_simp⟩) HS.out ?_
      simp only [List.getElem_toArray, List.getElem_cons_succ, List.getElem_cons_zero, Act.put, List.setIfInBounds_toArray, List.set_cons_zero, List.set_cons_succ]
      refine wpAnyH_take (i := 10) (v := .int .i64 (t : Int)) rfl (by kernel_rfl) (by kernel_rfl) (by kernel_rfl) (fun _ _ _ h => h) (Or.inl ⟨by rfl, fun w hSw => by go_simp⟩) HS.out ?_
      simp only [List.getElem_toArray, List.getElem_cons_succ, List.getElem_cons_zero, Act.put, List.setIfInBounds_toArray, List.set_cons_zero, List.set_cons_succ]
      refine wpAnyH_take (i := 11) (v := .int .i64 (y : Int)) rfl (by kernel_rfl) (by kernel_rfl) (by kernel_rfl) (fun _ _ _ h => h) (Or.inl ⟨by rfl, fun w hSw => by go_simp⟩) HS.out ?_
      simp only [List.getElem_toArray, List.getElem_cons_succ, List.getElem_cons_zero, Act.put, List.setIfInBounds_toArray, List.set_cons_zero, List.set_cons_succ]
      refine wpAnyH_take (i := 12) (v := .int .i64 15) rfl (by kernel_rfl) (by kernel_rfl) (by kernel_rfl) (fun _ _ _ h => h) (Or.inl ⟨by rfl, fun w hSw => by obtain ⟨h1, h2⟩ := hSw; go_simp⟩) HS.out ?_
      simp only [List.getElem_toArray, List.getElem_cons_succ, List.getElem_cons_zero, Act.put, List.setIfInBounds_toArray, List.set_cons_zero, List.set_cons_succ]
      refine wpAnyH_take (i := 13) (v := .int .i64 (D : Int)) rfl (by kernel_rfl) (by kernel_rfl) (by kernel_rfl) (fun _ _ _ h => h) (Or.inl ⟨by rfl, fun w hSw => by go_simp⟩) HS.out ?_
      simp only [List.getElem_toArray, List.getElem_cons_succ, List.getElem_cons_zero, Act.put, List.setIfInBounds_toArray, List.set_cons_zero, List.set_cons_succ]
      refine wpAnyH_take (i := 14) (v := .int .i64 (D : Int)) rfl (by kernel_rfl) (by kernel_rfl) (by kernel_rfl) (fun _ _ _ h => h) (Or.inl ⟨by rfl, fun w hSw => by go_simp⟩) HS.out ?_
      simp only [List.getElem_toArray, List.getElem_cons_succ, List.getElem_cons_zero, Act.put, List.setIfInBounds_toArray, List.set_cons_zero, List.set_cons_succ]
      refine wpAnyH_done (by kernel_rfl) ?_ _
      have s0 := HD2.out.s0
      have m0 : w2.cell? ⟨gm, 0, none⟩ = some (.int .i64 15) := HD2.out.m0
      have fs := frozen_of_row w2 gs 0 _ _ HD2.out.s_
      have hds := HD2.out.setS S1
      have HD3 := Lib.hid hds.1
      have HT3 := Lib.hid (HT2.out.trans hds.2 fun x _ e => e)
      clear hds HS ix e1 e2 e3 e4 hand
      go_upto_region 6 with fail
      generalize w2.setCell ⟨gs, 0, none⟩ (.int .i64 (S1 : Int)) = w3 at *
      clear s0 m0 fs HD2 HT2
      have o0 := HD3.out.o0
      have hgs3 : gs < w3.heap.size := (Array.getElem?_eq_some_iff.1 HD3.out.s_).1
      go_wp2_with (refine wpList_buildInt rfl _ rfl D rfl ?_)
      intro g w4 e4 c4 t4
      have lg : gs < g := by omega
      clear e4
      have HO4 := Lib.hid (t4.own HD3.out.row (fun _ _ e => e)); have T4 := Lib.hid t4
      have hgs4 : gs + 1 ≤ w4.heap.size := by have := t4.size; omega
      clear t4 o0
      go_wp2_with (at_builtin; refine wpList_appendInt rfl _ _ rfl (gs + 1) _ L0.length _ rfl HO4.out HD3.out.low hgs4 g D rfl c4 (by omega) ?_)
      intro ao5 c5 w5 ho5 hl5 t5
      have hlen : (L0 ++ [D]).length = L0.length + 1 := by simp
      have hset := HD3.out.setO (L' := L0 ++ [D]) (ao' := ao5) (cc' := c5) (((Turn.refl (fun k => gs < k) w3).pure T4.out).trans t5 fun x _ e => e) (by rw [hlen]; exact ho5) (by rw [hlen]; exact hl5)
      rw [hlen] at hset
      have ho := (((Turn.refl (fun k => gs < k) w3).pure T4.out).trans t5 fun x _ e => e).obj HD3.out.o_ (by have := hlt; omega)
      have o5 : w5.cell? ⟨go, 0, none⟩ = some (.slice ao' L0.length cc') := by rw [cell_of_row w5 go 0 _ _ _ ho]; rfl
      have f5 := frozen_of_row w5 go 0 _ _ ho
      have HDF := Lib.hid hset.1; have HTF := Lib.hid (HT3.out.trans hset.2 fun x _ e => e)
      clear c4 ho5 hl5 t5 hset ho hlen HO4 T4 HD3 HT3
      go_wp2
      exact ⟨⟨k + 1, ao5, c5, by omega, by first | rfl | trivial, Lib.hid (by rw [HE.out.2.2.2.1, ← HE.out.2.1]; exact HDF.out), HTF⟩, by simp [intOf]; omega⟩
    · obtain rfl : k = many := by omega
      have q1 : ¬ ((k : Int) < k) := by omega
      go_wp2
      exact bodyPost_end (results_none (by kernel_rfl) _ _ _) rfl ⟨rfl, ⟨ao', cc', HD.out⟩, HT.out⟩

set_option maxRecDepth 100000 in
set_option maxHeartbeats 4000000 in
theorem cutd_8 (w : World) (s : List UInt8) (many gk gm go gs p ls S : Nat) (ao : Option Addr) (cc : Nat) (L : List Nat) (h : DigSt w gk gm go gs 8 p ls S ao cc L) (hs : ∀ i, i < many → i * 8 / 8 < s.length) (hm : many ≤ 64) (hS : S ≤ 100000) (hL : L.length ≤ 500) :
    Calls Try.prog 68 #[.string (bstr s), .int .i64 (many : Int), .pointer (some ⟨gk, 0, none⟩), .pointer (some ⟨gm, 0, none⟩), .pointer (some ⟨gs, 0, none⟩), .pointer (some ⟨go, 0, none⟩)] w fun e w' => e = .returned (.tuple #[]) ∧ (∃ ao' cc', DigSt w' gk gm go gs 8 p ls (S + sumV 8 s many) ao' cc' (L ++ (List.range many).map (digV 8 s))) ∧ Turn (fun k => go ≤ k) w w' := by
  have H := Lib.hid h
  have HSL := Lib.hid hs
  have hlt := h.lt
  clear h hs
  go_enter Try.func68, Try.ntmps68
  go_wp2
  go_loopw [8, 9, 10, 12] (fun _ _ _ i wr => ∃ (k : Nat) (ao' : Option Addr) (cc' : Nat), k ≤ many ∧ i = .int .i64 (k : Int) ∧ Hid (DigSt wr gk gm go gs 8 p ls (S + sumV 8 s k) ao' cc' (L ++ (List.range k).map (digV 8 s))) ∧ Hid (Turn (fun k => go ≤ k) w wr)) (fun _ _ _ i _ => many - (intOf i).toNat)
  case atStart => exact ⟨0, ao, cc, by omega, rfl, Lib.hid (by simpa [sumV] using H.out), Lib.hid (Turn.refl _ _)⟩
  case round =>
    obtain ⟨k, ao', cc', hk, rfl, HD, HT⟩ := hrel
    by_cases hlk : k < many
    · have q1 : (k : Int) < many := by omega
      have hi := HSL.out k hlk
      obtain ⟨at_, hat⟩ : ∃ a, a = k * 8 := ⟨_, rfl⟩
      obtain ⟨k8, hk8⟩ : ∃ x, x = at_ / 8 := ⟨_, rfl⟩
      obtain ⟨r, hr⟩ : ∃ r, r = at_ % 8 := ⟨_, rfl⟩
      have hatl : at_ ≤ 1000 := by omega
      rw [← hat, ← hk8] at hi
      have ix := fun W => index_bstr W s (k8 : Int) k8 rfl hi
      have hb := (s.getD k8 0).toNat_lt
      have hd : digV 8 s k = (s.getD k8 0).toNat / 2 ^ (8 - 8 - r) % 2 ^ 8 := by rw [digV, ← hat, ← hk8, ← hr]
      have hrw : r + 8 ≤ 8 := by omega
      obtain ⟨c, hc⟩ : ∃ c, c = (s.getD k8 0).toNat := ⟨_, rfl⟩
      rw [← hc] at ix hb hd
      obtain ⟨t, ht⟩ : ∃ t, t = 8 - 8 - r := ⟨_, rfl⟩
      rw [← ht] at hd
      obtain ⟨y, hy⟩ : ∃ y, y = c / 2 ^ t := ⟨_, rfl⟩
      rw [← hy] at hd
      have hyl : y < 256 := by rw [hy]; exact Nat.lt_of_le_of_lt (Nat.div_le_self _ _) hb
      have hand := and_low y 8 (by omega) hyl
      rw [← hd] at hand
      have hdl := digV_lt 8 s k
      have hsv : sumV 8 s (k + 1) = sumV 8 s k + (256 - 1 - digV 8 s k) := rfl
      have hsl := sumV_le 8 s k
      have hra : L ++ (List.range (k + 1)).map (digV 8 s) = (L ++ (List.range k).map (digV 8 s)) ++ [digV 8 s k] := by rw [List.range_succ, List.map_append, List.append_assoc]; rfl
      obtain ⟨D, hD⟩ : ∃ D, D = digV 8 s k := ⟨_, rfl⟩
      rw [← hD] at hand hdl hsv hra
      obtain ⟨S0, hS0⟩ : ∃ S0, S0 = S + sumV 8 s k := ⟨_, rfl⟩
      obtain ⟨S1, hS1⟩ : ∃ S1, S1 = S + sumV 8 s (k + 1) := ⟨_, rfl⟩
      obtain ⟨L0, hL0⟩ : ∃ L0, L0 = L ++ (List.range k).map (digV 8 s) := ⟨_, rfl⟩
      have hL0l : L0.length ≤ 600 := by rw [hL0]; simp; omega
      have hS1e : S1 = S0 + (255 - D) := by omega
      rw [← hS0, ← hL0] at HD
      rw [← hL0] at hra
      have hSb : S0 ≤ 200000 := by omega
      have e1 : (at_ : Int).tdiv 8 = (k8 : Int) := by rw [Int.tdiv_eq_ediv_of_nonneg (by omega)]; omega
      have e2 : (at_ : Int).tmod 8 = (r : Int) := by rw [Int.tmod_eq_emod_of_nonneg (by omega)]; omega
      have e3 : (c : Int) / 2 ^ t = (y : Int) := by rw [hy, Int.natCast_ediv, Int.natCast_pow]; rfl
      have e4 : (k : Int) * 8 = (at_ : Int) := by omega
      have wa : IntKind.i64.wrap (at_ : Int) = at_ := IntWalk.i64_in _ (by omega)
      have wk : IntKind.i64.wrap (k8 : Int) = k8 := IntWalk.i64_in _ (by omega)
      have wr_ : IntKind.i64.wrap (r : Int) = r := IntWalk.i64_in _ (by omega)
      have wc : IntKind.i64.wrap (c : Int) = c := IntWalk.i64_in _ (by omega)
      have wy : IntKind.i64.wrap (y : Int) = y := IntWalk.i64_in _ (by omega)
      have wt : IntKind.i64.wrap (t : Int) = t := IntWalk.i64_in _ (by omega)
      have x1 : IntKind.i64.wrap 0 = 0 := IntWalk.i64_in _ (by omega)
      have x2 : IntKind.i64.wrap (0 - (r : Int)) = (t : Int) := by rw [IntWalk.i64_in _ (by omega)]; omega
      have x3 : IntKind.i64.wrap (-(r : Int)) = (-(r : Int)) := IntWalk.i64_in _ (by omega)
      have x4 : -(r : Int) = (t : Int) := by omega
      have hand : bits .and .i64 (y : Int) 255 = (D : Int) := hand
      have i1 : IntKind.i64.wrap ((k : Int) + 1) = ((k + 1 : Nat) : Int) := by rw [IntWalk.i64_in _ (by omega)]; omega
      have i2 : IntKind.i64.wrap (255 - (D : Int)) = ((255 - D : Nat) : Int) := by rw [IntWalk.i64_in _ (by omega)]; omega
      have i3 : IntKind.i64.wrap ((S0 : Int) + ((255 - D : Nat) : Int)) = (S1 : Int) := by rw [IntWalk.i64_in _ (by omega)]; omega
      have t8 : t ≤ 8 := by omega
      have HE := Lib.hid (And.intro hS0 (And.intro hS1 (And.intro hL0 (And.intro hra hS1e))))
      clear hat hk8 hr hd hc ht hy hsv hsl hD hS0 hS1 hL0 hra hS1e hrw
      have c0 := HD.out.k0
      have m0 : wr.cell? ⟨gm, 0, none⟩ = some (.int .i64 255) := HD.out.m0
      have s0 := HD.out.s0
      have o0 := HD.out.o0
      have c0 : wr.cell? ⟨gk, 0, none⟩ = some (.int .i64 8) := c0
      go_wp2_with fail
      refine wp_region_held_drew (S := fun w' => w'.cell? ⟨gk, 0, none⟩ = some (.int .i64 8) ∧ w'.cell? ⟨gm, 0, none⟩ = some (.int .i64 255)) (by kernel_rfl) (show wr.drew.cell? ⟨gk, 0, none⟩ = some (.int .i64 8) ∧ wr.drew.cell? ⟨gm, 0, none⟩ = some (.int .i64 255) from ⟨c0, m0⟩) (fun hHeld => ?_)
      have HS := Lib.hid hHeld
      have HD2 := Lib.hid (HD.out.pure ((Turn.refl (fun _ => False) wr).drew)); have HT2 := Lib.hid HT.out.drew
      clear hHeld c0 m0 s0 o0 HD HT
      generalize wr.drew = w2 at *
      refine wpAnyH_take (i := 0) (v := .string (bstr s)) rfl (by kernel_rfl) (by kernel_rfl) (by kernel_rfl) (fun _ _ _ h => h) (Or.inl ⟨by rfl, fun w hSw => by go_simp⟩) HS.out ?_
      simp only [List.getElem_toArray, List.getElem_cons_zero, Act.put, List.setIfInBounds_toArray, List.set_cons_zero, List.set_cons_succ]
      refine wpAnyH_take (i := 1) (v := .int .i64 (at_ : Int)) rfl (by kernel_rfl) (by kernel_rfl) (by kernel_rfl) (fun _ _ _ h => h) (Or.inl ⟨by rfl, fun w hSw => by go_simp⟩) HS.out ?_
      simp only [List.getElem_toArray, List.getElem_cons_succ, List.getElem_cons_zero, Act.put, List.setIfInBounds_toArray, List.set_cons_zero, List.set_cons_succ]
      refine wpAnyH_take (i := 2) (v := .int .i64 (k8 : Int)) rfl (by kernel_rfl) (by kernel_rfl) (by kernel_rfl) (fun _ _ _ h => h) (Or.inl ⟨by rfl, fun w hSw => by go_simp⟩) HS.out ?_
      simp only [List.getElem_toArray, List.getElem_cons_succ, List.getElem_cons_zero, Act.put, List.setIfInBounds_toArray, List.set_cons_zero, List.set_cons_succ]
      refine wpAnyH_take (i := 3) (v := .int .u8 (c : Int)) rfl (by kernel_rfl) (by kernel_rfl) (by kernel_rfl) (fun _ _ _ h => h) (Or.inl ⟨by rfl, fun w hSw => by go_simp⟩) HS.out ?_
      simp only [List.getElem_toArray, List.getElem_cons_succ, List.getElem_cons_zero, Act.put, List.setIfInBounds_toArray, List.set_cons_zero, List.set_cons_succ]
      refine wpAnyH_take (i := 4) (v := .int .i64 (c : Int)) rfl (by kernel_rfl) (by kernel_rfl) (by kernel_rfl) (fun _ _ _ h => h) (Or.inl ⟨by rfl, fun w hSw => by go_simp⟩) HS.out ?_
      simp only [List.getElem_toArray, List.getElem_cons_succ, List.getElem_cons_zero, Act.put, List.setIfInBounds_toArray, List.set_cons_zero, List.set_cons_succ]
      refine wpAnyH_take (i := 5) (v := .pointer (some ⟨gk, 0, none⟩)) rfl (by kernel_rfl) (by kernel_rfl) (by kernel_rfl) (fun _ _ _ h => h) (Or.inl ⟨by rfl, fun w hSw => by go_simp⟩) HS.out ?_
      simp only [List.getElem_toArray, List.getElem_cons_succ, List.getElem_cons_zero, Act.put, List.setIfInBounds_toArray, List.set_cons_zero, List.set_cons_succ]
      refine wpAnyH_take (i := 6) (v := .int .i64 8) rfl (by kernel_rfl) (by kernel_rfl) (by kernel_rfl) (fun _ _ _ h => h) (Or.inl ⟨by rfl, fun w hSw => by obtain ⟨h1, h2⟩ := hSw; go_simp⟩) HS.out ?_
      simp only [List.getElem_toArray, List.getElem_cons_succ, List.getElem_cons_zero, Act.put, List.setIfInBounds_toArray, List.set_cons_zero, List.set_cons_succ]
      refine wpAnyH_take (i := 7) (v := .int .i64 0) rfl (by kernel_rfl) (by kernel_rfl) (by kernel_rfl) (fun _ _ _ h => h) (Or.inl ⟨by rfl, fun w hSw => by go_simp⟩) HS.out ?_
      simp only [List.getElem_toArray, List.getElem_cons_succ, List.getElem_cons_zero, Act.put, List.setIfInBounds_toArray, List.set_cons_zero, List.set_cons_succ]
      refine wpAnyH_take (i := 8) (v := .int .i64 (at_ : Int)) rfl (by kernel_rfl) (by kernel_rfl) (by kernel_rfl) (fun _ _ _ h => h) (Or.inl ⟨by rfl, fun w hSw => by go_simp⟩) HS.out ?_
      simp only [List.getElem_toArray, List.getElem_cons_succ, List.getElem_cons_zero, Act.put, List.setIfInBounds_toArray, List.set_cons_zero, List.set_cons_succ]
      refine wpAnyH_take (i := 9) (v := .int .i64 (r : Int)) rfl (by kernel_rfl) (by kernel_rfl) (by kernel_rfl) (fun _ _ _ h => h) (Or.inl ⟨by rfl, fun w hSw => by go_simp⟩) HS.out ?_
      simp only [List.getElem_toArray, List.getElem_cons_succ, List.getElem_cons_zero, Act.put, List.setIfInBounds_toArray, List.set_cons_zero, List.set_cons_succ]
      refine wpAnyH_take (i := 10) (v := .int .i64 (t : Int)) rfl (by kernel_rfl) (by kernel_rfl) (by kernel_rfl) (fun _ _ _ h => h) (Or.inl ⟨by rfl, fun w hSw => by go_simp⟩) HS.out ?_
      simp only [List.getElem_toArray, List.getElem_cons_succ, List.getElem_cons_zero, Act.put, List.setIfInBounds_toArray, List.set_cons_zero, List.set_cons_succ]
      refine wpAnyH_take (i := 11) (v := .int .i64 (y : Int)) rfl (by kernel_rfl) (by kernel_rfl) (by kernel_rfl) (fun _ _ _ h => h) (Or.inl ⟨by rfl, fun w hSw => by go_simp⟩) HS.out ?_
      simp only [List.getElem_toArray, List.getElem_cons_succ, List.getElem_cons_zero, Act.put, List.setIfInBounds_toArray, List.set_cons_zero, List.set_cons_succ]
      refine wpAnyH_take (i := 12) (v := .int .i64 255) rfl (by kernel_rfl) (by kernel_rfl) (by kernel_rfl) (fun _ _ _ h => h) (Or.inl ⟨by rfl, fun w hSw => by obtain ⟨h1, h2⟩ := hSw; go_simp⟩) HS.out ?_
      simp only [List.getElem_toArray, List.getElem_cons_succ, List.getElem_cons_zero, Act.put, List.setIfInBounds_toArray, List.set_cons_zero, List.set_cons_succ]
      refine wpAnyH_take (i := 13) (v := .int .i64 (D : Int)) rfl (by kernel_rfl) (by kernel_rfl) (by kernel_rfl) (fun _ _ _ h => h) (Or.inl ⟨by rfl, fun w hSw => by go_simp⟩) HS.out ?_
      simp only [List.getElem_toArray, List.getElem_cons_succ, List.getElem_cons_zero, Act.put, List.setIfInBounds_toArray, List.set_cons_zero, List.set_cons_succ]
      refine wpAnyH_take (i := 14) (v := .int .i64 (D : Int)) rfl (by kernel_rfl) (by kernel_rfl) (by kernel_rfl) (fun _ _ _ h => h) (Or.inl ⟨by rfl, fun w hSw => by go_simp⟩) HS.out ?_
      simp only [List.getElem_toArray, List.getElem_cons_succ, List.getElem_cons_zero, Act.put, List.setIfInBounds_toArray, List.set_cons_zero, List.set_cons_succ]
      refine wpAnyH_done (by kernel_rfl) ?_ _
      have s0 := HD2.out.s0
      have m0 : w2.cell? ⟨gm, 0, none⟩ = some (.int .i64 255) := HD2.out.m0
      have fs := frozen_of_row w2 gs 0 _ _ HD2.out.s_
      have hds := HD2.out.setS S1
      have HD3 := Lib.hid hds.1
      have HT3 := Lib.hid (HT2.out.trans hds.2 fun x _ e => e)
      clear hds HS ix e1 e2 e3 e4 hand
      go_upto_region 6 with fail
      generalize w2.setCell ⟨gs, 0, none⟩ (.int .i64 (S1 : Int)) = w3 at *
      clear s0 m0 fs HD2 HT2
      have o0 := HD3.out.o0
      have hgs3 : gs < w3.heap.size := (Array.getElem?_eq_some_iff.1 HD3.out.s_).1
      go_wp2_with (refine wpList_buildInt rfl _ rfl D rfl ?_)
      intro g w4 e4 c4 t4
      have lg : gs < g := by omega
      clear e4
      have HO4 := Lib.hid (t4.own HD3.out.row (fun _ _ e => e)); have T4 := Lib.hid t4
      have hgs4 : gs + 1 ≤ w4.heap.size := by have := t4.size; omega
      clear t4 o0
      go_wp2_with (at_builtin; refine wpList_appendInt rfl _ _ rfl (gs + 1) _ L0.length _ rfl HO4.out HD3.out.low hgs4 g D rfl c4 (by omega) ?_)
      intro ao5 c5 w5 ho5 hl5 t5
      have hlen : (L0 ++ [D]).length = L0.length + 1 := by simp
      have hset := HD3.out.setO (L' := L0 ++ [D]) (ao' := ao5) (cc' := c5) (((Turn.refl (fun k => gs < k) w3).pure T4.out).trans t5 fun x _ e => e) (by rw [hlen]; exact ho5) (by rw [hlen]; exact hl5)
      rw [hlen] at hset
      have ho := (((Turn.refl (fun k => gs < k) w3).pure T4.out).trans t5 fun x _ e => e).obj HD3.out.o_ (by have := hlt; omega)
      have o5 : w5.cell? ⟨go, 0, none⟩ = some (.slice ao' L0.length cc') := by rw [cell_of_row w5 go 0 _ _ _ ho]; rfl
      have f5 := frozen_of_row w5 go 0 _ _ ho
      have HDF := Lib.hid hset.1; have HTF := Lib.hid (HT3.out.trans hset.2 fun x _ e => e)
      clear c4 ho5 hl5 t5 hset ho hlen HO4 T4 HD3 HT3
      go_wp2
      exact ⟨⟨k + 1, ao5, c5, by omega, by first | rfl | trivial, Lib.hid (by rw [HE.out.2.2.2.1, ← HE.out.2.1]; exact HDF.out), HTF⟩, by simp [intOf]; omega⟩
    · obtain rfl : k = many := by omega
      have q1 : ¬ ((k : Int) < k) := by omega
      go_wp2
      exact bodyPost_end (results_none (by kernel_rfl) _ _ _) rfl ⟨rfl, ⟨ao', cc', HD.out⟩, HT.out⟩
end Go.Proofs.Ytmifchdmlbcclaa
