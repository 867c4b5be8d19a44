/- Chapter 4, the reference: kinds, digits. Chapter 4, the program: kinds. -/
import Derived.Test.YtcfbmbhkdicpfaaOts1
import Derived.Deep.AppendLies
namespace Go.Proofs.Ytcfbmbhkdicpfaa
open Go.RowKit

/-- What a kind says. -/
def parV (k : Int) : Nat × Nat × Nat := if k = 3 then (4, 67, 4) else if k = 4 then (8, 34, 0) else (0, 0, 0)

set_option maxHeartbeats 1000000 in
theorem Params_any (w : World) (k : Int) : Calls Try.prog 91 #[.int .i64 k] w fun e w' => e = .returned (.tuple #[.int .i64 ((parV k).1 : Int), .int .i64 ((parV k).2.1 : Int), .int .i64 ((parV k).2.2 : Int)]) ∧ w' = w := by
  by_cases h3 : k = 3
  · subst h3
    go_enter Try.func91, Try.ntmps91
    go_wp2
    go_ret3
    exact ⟨rfl, rfl⟩
  · by_cases h4 : k = 4
    · subst h4
      go_enter Try.func91, Try.ntmps91
      go_wp2
      go_ret3
      exact ⟨rfl, rfl⟩
    · have q3 : (k == 3) = false := by simp; exact h3
      have q4 : (k == 4) = false := by simp; exact h4
      have e : parV k = (0, 0, 0) := by rw [parV, if_neg h3, if_neg h4]
      rw [e]
      clear e h3 h4
      go_enter Try.func91, Try.ntmps91
      go_wp2
      go_ret3
      exact ⟨rfl, rfl⟩

set_option maxHeartbeats 1000000 in
theorem otsMay_any (w : World) (id : List UInt8) (q : Int) :
    Calls Try.prog 135 #[.string (bstr id), .int .i64 q] w fun e w' => e = .returned (.bool (placeB id q)) ∧ w' = w := by
  have z1 := bstr_size id
  have hpb : placeB id q = decide (id.length = 16 ∧ 0 ≤ q ∧ q ≤ 4294967295) := rfl
  obtain ⟨n, hn⟩ : ∃ n, n = id.length := ⟨_, rfl⟩
  rw [← hn] at z1 hpb
  generalize placeB id q = B at hpb ⊢
  have HPB := Lib.hid hpb; clear hpb hn
  by_cases h1 : n = 16
  · have q1 : ((n : Int) == 16) = true := by simp; omega
    have q1n : (n == 16) = true := by simp; omega
    by_cases h2 : 0 ≤ q
    · have q2 : decide (0 ≤ q) = true := decide_eq_true h2
      by_cases h3 : q ≤ 4294967295
      · have q3 : decide (q ≤ 4294967295) = true := decide_eq_true h3
        have hB : B = true := by rw [HPB.out]; exact decide_eq_true ⟨h1, h2, h3⟩
        rw [hB]
        clear hB h1
        go_enter Try.func135, Try.ntmps135
        go_wp2
        go_ret
        exact ⟨rfl, rfl⟩
      · have q3 : decide (q ≤ 4294967295) = false := decide_eq_false h3
        have hB : B = false := by rw [HPB.out]; exact decide_eq_false (by omega)
        rw [hB]
        clear hB h1
        go_enter Try.func135, Try.ntmps135
        go_wp2
        go_ret
        exact ⟨rfl, rfl⟩
    · have q2 : decide (0 ≤ q) = false := decide_eq_false h2
      have hB : B = false := by rw [HPB.out]; exact decide_eq_false (by omega)
      rw [hB]
      clear hB h1
      go_enter Try.func135, Try.ntmps135
      go_wp2
      go_ret
      exact ⟨rfl, rfl⟩
  · have q1 : ((n : Int) == 16) = false := by simp; omega
    have q1n : (n == 16) = false := by simp; omega
    have hB : B = false := by rw [HPB.out]; exact decide_eq_false (by omega)
    rw [hB]
    clear hB
    go_enter Try.func135, Try.ntmps135
    go_wp2
    go_ret
    exact ⟨rfl, rfl⟩

/-- The lowest w bits of a number, w 4 or 8. -/
theorem and_low (x wd : Nat) (hw : wd = 4 ∨ wd = 8) (hx : x < 256) : bits .and .i64 (x : Int) ((2 ^ wd - 1 : Nat) : Int) = ((x % 2 ^ wd : Nat) : Int) := by
  have := bits_mask .i64 63 (by decide) (fun n a c => by rw [IntKind.wrap_i64]; omega) wd (by omega) (x : Int) (by omega) (by omega)
  rcases hw with rfl | rfl <;> simpa using this

set_option maxRecDepth 100000 in
set_option maxHeartbeats 1000000 in
theorem digit_any (w : World) (s : List UInt8) (i wd : Nat) (hw : wd = 4 ∨ wd = 8) (hi : i * wd / 8 < s.length) (hi2 : i ≤ 1000) :
    Calls Try.prog 150 #[.string (bstr s), .int .i64 (i : Int), .int .i64 (wd : Int)] w fun e w' => e = .returned (.int .i64 ((digV wd s i : Nat) : Int)) ∧ Pure w w' := by
  obtain ⟨at_, hat⟩ : ∃ a, a = i * wd := ⟨_, rfl⟩
  obtain ⟨k, hk⟩ : ∃ k, k = at_ / 8 := ⟨_, rfl⟩
  obtain ⟨r, hr⟩ : ∃ r, r = at_ % 8 := ⟨_, rfl⟩
  have hatl : at_ ≤ 8000 := by rw [hat]; rcases hw with rfl | rfl <;> omega
  rw [← hat, ← hk] at hi
  have i1 : IntKind.i64.wrap ((i : Int) * wd) = (at_ : Int) := by
    rw [hat, ← Int.natCast_mul]
    exact IntWalk.i64_in _ (by rw [← hat]; omega)
  have ix := fun W => index_bstr W s (k : Int) k rfl hi
  have hb := (s.getD k 0).toNat_lt
  have hd : digV wd s i = (s.getD k 0).toNat / 2 ^ (8 - wd - r) % 2 ^ wd := by rw [digV, ← hat, ← hk, ← hr]
  have hr8 : r < 8 := by omega
  have hrw : r + wd ≤ 8 := by rw [hr, hat]; rcases hw with rfl | rfl <;> omega
  obtain ⟨c, hc⟩ : ∃ c, c = (s.getD k 0).toNat := ⟨_, rfl⟩
  rw [← hc] at ix hb hd
  obtain ⟨t, ht⟩ : ∃ t, t = 8 - wd - r := ⟨_, rfl⟩
  rw [← ht] at hd
  obtain ⟨y, hy⟩ : ∃ y, y = c / 2 ^ t := ⟨_, rfl⟩
  rw [← hy] at hd
  have hyl : y < 256 := by rw [hy]; exact Nat.lt_of_le_of_lt (Nat.div_le_self _ _) hb
  have hand := and_low y wd hw hyl
  rw [← hd] at hand
  generalize digV wd s i = D at hand ⊢
  have e1 : (at_ : Int).tdiv 8 = (k : Int) := by rw [Int.tdiv_eq_ediv_of_nonneg (by omega)]; omega
  have e2 : (at_ : Int).tmod 8 = (r : Int) := by rw [Int.tmod_eq_emod_of_nonneg (by omega)]; omega
  have e3 : (c : Int) / 2 ^ t = (y : Int) := by rw [hy, Int.natCast_ediv, Int.natCast_pow]; rfl
  have hm : (i : Int) * (wd : Int) = (at_ : Int) := by rw [hat, Int.natCast_mul]
  have wk : IntKind.i64.wrap (k : Int) = k := IntWalk.i64_in _ (by omega)
  have wr : IntKind.i64.wrap (r : Int) = r := IntWalk.i64_in _ (by omega)
  have wc : IntKind.i64.wrap (c : Int) = c := IntWalk.i64_in _ (by omega)
  have wy : IntKind.i64.wrap (y : Int) = y := IntWalk.i64_in _ (by omega)
  have wl : ∀ m : Nat, m ≤ 256 → IntKind.i64.wrap (m : Int) = m := fun m hm => IntWalk.i64_in _ (by omega)
  have HK := Lib.hid (And.intro hk (And.intro hr (And.intro hat (And.intro hc hy))))
  have hk8 : k ≤ 1000 := by omega
  clear hk hr hat hc hy hd
  rcases hw with rfl | rfl
  · have x1 : IntKind.i64.wrap 4 = 4 := wl 4 (by omega)
    have x2 : IntKind.i64.wrap 16 = 16 := wl 16 (by omega)
    have x3 : IntKind.i64.wrap 15 = 15 := wl 15 (by omega)
    have hm : (i : Int) * 4 = (at_ : Int) := hm
    have hand : bits .and .i64 (y : Int) 15 = (D : Int) := hand
    clear wl
    have i2 : IntKind.i64.wrap (4 - (r : Int)) = (t : Int) := by rw [IntWalk.i64_in _ (by omega)]; omega
    have ht8 : t ≤ 8 := by omega
    clear ht
    go_enter Try.func150, Try.ntmps150
    go_wp2_with fail
    refine wp_region_held_drew (S := fun _ => True) (by kernel_rfl) trivial (fun _ => ?_)
    have PT := Lib.hid ((Turn.refl (fun _ => False) w).drew)
    generalize w.drew = w2 at *
    refine wpAnyH_take (i := 0) (v := .string (bstr s)) rfl (by kernel_rfl) (by kernel_rfl) (by kernel_rfl) (fun _ _ _ h => h) (Or.inl ⟨by rfl, fun w hSw => by go_simp⟩) trivial ?_
    simp only [AP]
    refine wpAnyH_take (i := 1) (v := .int .i64 (at_ : Int)) rfl (by kernel_rfl) (by kernel_rfl) (by kernel_rfl) (fun _ _ _ h => h) (Or.inl ⟨by rfl, fun w hSw => by go_simp⟩) trivial ?_
    simp only [AP]
    refine wpAnyH_take (i := 2) (v := .int .i64 (k : Int)) rfl (by kernel_rfl) (by kernel_rfl) (by kernel_rfl) (fun _ _ _ h => h) (Or.inl ⟨by rfl, fun w hSw => by go_simp⟩) trivial ?_
    simp only [AP]
    refine wpAnyH_take (i := 3) (v := .int .u8 (c : Int)) rfl (by kernel_rfl) (by kernel_rfl) (by kernel_rfl) (fun _ _ _ h => h) (Or.inl ⟨by rfl, fun w hSw => by go_simp⟩) trivial ?_
    simp only [AP]
    refine wpAnyH_take (i := 4) (v := .int .i64 (c : Int)) rfl (by kernel_rfl) (by kernel_rfl) (by kernel_rfl) (fun _ _ _ h => h) (Or.inl ⟨by rfl, fun w hSw => by go_simp⟩) trivial ?_
    simp only [AP]
    refine wpAnyH_take (i := 5) (v := .int .i64 4) rfl (by kernel_rfl) (by kernel_rfl) (by kernel_rfl) (fun _ _ _ h => h) (Or.inl ⟨by rfl, fun w hSw => by go_simp⟩) trivial ?_
    simp only [AP]
    refine wpAnyH_take (i := 6) (v := .int .i64 4) rfl (by kernel_rfl) (by kernel_rfl) (by kernel_rfl) (fun _ _ _ h => h) (Or.inl ⟨by rfl, fun w hSw => by go_simp⟩) trivial ?_
    simp only [AP]
    refine wpAnyH_take (i := 7) (v := .int .i64 (at_ : Int)) rfl (by kernel_rfl) (by kernel_rfl) (by kernel_rfl) (fun _ _ _ h => h) (Or.inl ⟨by rfl, fun w hSw => by go_simp⟩) trivial ?_
    simp only [AP]
    refine wpAnyH_take (i := 8) (v := .int .i64 (r : Int)) rfl (by kernel_rfl) (by kernel_rfl) (by kernel_rfl) (fun _ _ _ h => h) (Or.inl ⟨by rfl, fun w hSw => by go_simp⟩) trivial ?_
    simp only [AP]
    refine wpAnyH_take (i := 9) (v := .int .i64 (t : Int)) rfl (by kernel_rfl) (by kernel_rfl) (by kernel_rfl) (fun _ _ _ h => h) (Or.inl ⟨by rfl, fun w hSw => by go_simp⟩) trivial ?_
    simp only [AP]
    refine wpAnyH_take (i := 10) (v := .int .i64 (y : Int)) rfl (by kernel_rfl) (by kernel_rfl) (by kernel_rfl) (fun _ _ _ h => h) (Or.inl ⟨by rfl, fun w hSw => by go_simp⟩) trivial ?_
    simp only [AP]
    refine wpAnyH_take (i := 11) (v := .int .i64 4) rfl (by kernel_rfl) (by kernel_rfl) (by kernel_rfl) (fun _ _ _ h => h) (Or.inl ⟨by rfl, fun w hSw => by go_simp⟩) trivial ?_
    simp only [AP]
    refine wpAnyH_take (i := 12) (v := .int .i64 16) rfl (by kernel_rfl) (by kernel_rfl) (by kernel_rfl) (fun _ _ _ h => h) (Or.inl ⟨by rfl, fun w hSw => by go_simp⟩) trivial ?_
    simp only [AP]
    refine wpAnyH_take (i := 13) (v := .int .i64 15) rfl (by kernel_rfl) (by kernel_rfl) (by kernel_rfl) (fun _ _ _ h => h) (Or.inl ⟨by rfl, fun w hSw => by go_simp⟩) trivial ?_
    simp only [AP]
    refine wpAnyH_take (i := 14) (v := .int .i64 (D : Int)) rfl (by kernel_rfl) (by kernel_rfl) (by kernel_rfl) (fun _ _ _ h => h) (Or.inl ⟨by rfl, fun w hSw => by go_simp⟩) trivial ?_
    simp only [AP]
    refine wpAnyH_take (i := 15) (v := .int .i64 (D : Int)) rfl (by kernel_rfl) (by kernel_rfl) (by kernel_rfl) (fun _ _ _ h => h) (Or.inl ⟨by rfl, fun w hSw => by go_simp⟩) trivial ?_
    simp only [AP]
    refine wpAnyH_done (by kernel_rfl) ?_ _
    go_wp2
    go_ret
    exact ⟨rfl, PT.out⟩
  · have x0 : IntKind.i64.wrap (-(r : Int)) = (t : Int) := by rw [IntWalk.i64_in _ (by omega)]; omega
    have x1 : IntKind.i64.wrap 0 = 0 := wl 0 (by omega)
    have x2 : IntKind.i64.wrap 256 = 256 := wl 256 (by omega)
    have x3 : IntKind.i64.wrap 255 = 255 := wl 255 (by omega)
    have hm : (i : Int) * 8 = (at_ : Int) := hm
    have hand : bits .and .i64 (y : Int) 255 = (D : Int) := hand
    clear wl
    have i2 : IntKind.i64.wrap (0 - (r : Int)) = (t : Int) := by rw [IntWalk.i64_in _ (by omega)]; omega
    have ht8 : t ≤ 8 := by omega
    clear ht
    go_enter Try.func150, Try.ntmps150
    go_wp2_with fail
    refine wp_region_held_drew (S := fun _ => True) (by kernel_rfl) trivial (fun _ => ?_)
    have PT := Lib.hid ((Turn.refl (fun _ => False) w).drew)
    generalize w.drew = w2 at *
    refine wpAnyH_take (i := 0) (v := .string (bstr s)) rfl (by kernel_rfl) (by kernel_rfl) (by kernel_rfl) (fun _ _ _ h => h) (Or.inl ⟨by rfl, fun w hSw => by go_simp⟩) trivial ?_
    simp only [AP]
    refine wpAnyH_take (i := 1) (v := .int .i64 (at_ : Int)) rfl (by kernel_rfl) (by kernel_rfl) (by kernel_rfl) (fun _ _ _ h => h) (Or.inl ⟨by rfl, fun w hSw => by go_simp⟩) trivial ?_
    simp only [AP]
    refine wpAnyH_take (i := 2) (v := .int .i64 (k : Int)) rfl (by kernel_rfl) (by kernel_rfl) (by kernel_rfl) (fun _ _ _ h => h) (Or.inl ⟨by rfl, fun w hSw => by go_simp⟩) trivial ?_
    simp only [AP]
    refine wpAnyH_take (i := 3) (v := .int .u8 (c : Int)) rfl (by kernel_rfl) (by kernel_rfl) (by kernel_rfl) (fun _ _ _ h => h) (Or.inl ⟨by rfl, fun w hSw => by go_simp⟩) trivial ?_
    simp only [AP]
    refine wpAnyH_take (i := 4) (v := .int .i64 (c : Int)) rfl (by kernel_rfl) (by kernel_rfl) (by kernel_rfl) (fun _ _ _ h => h) (Or.inl ⟨by rfl, fun w hSw => by go_simp⟩) trivial ?_
    simp only [AP]
    refine wpAnyH_take (i := 5) (v := .int .i64 8) rfl (by kernel_rfl) (by kernel_rfl) (by kernel_rfl) (fun _ _ _ h => h) (Or.inl ⟨by rfl, fun w hSw => by go_simp⟩) trivial ?_
    simp only [AP]
    refine wpAnyH_take (i := 6) (v := .int .i64 0) rfl (by kernel_rfl) (by kernel_rfl) (by kernel_rfl) (fun _ _ _ h => h) (Or.inl ⟨by rfl, fun w hSw => by go_simp⟩) trivial ?_
    simp only [AP]
    refine wpAnyH_take (i := 7) (v := .int .i64 (at_ : Int)) rfl (by kernel_rfl) (by kernel_rfl) (by kernel_rfl) (fun _ _ _ h => h) (Or.inl ⟨by rfl, fun w hSw => by go_simp⟩) trivial ?_
    simp only [AP]
    refine wpAnyH_take (i := 8) (v := .int .i64 (r : Int)) rfl (by kernel_rfl) (by kernel_rfl) (by kernel_rfl) (fun _ _ _ h => h) (Or.inl ⟨by rfl, fun w hSw => by go_simp⟩) trivial ?_
    simp only [AP]
    refine wpAnyH_take (i := 9) (v := .int .i64 (t : Int)) rfl (by kernel_rfl) (by kernel_rfl) (by kernel_rfl) (fun _ _ _ h => h) (Or.inl ⟨by rfl, fun w hSw => by go_simp⟩) trivial ?_
    simp only [AP]
    refine wpAnyH_take (i := 10) (v := .int .i64 (y : Int)) rfl (by kernel_rfl) (by kernel_rfl) (by kernel_rfl) (fun _ _ _ h => h) (Or.inl ⟨by rfl, fun w hSw => by go_simp⟩) trivial ?_
    simp only [AP]
    refine wpAnyH_take (i := 11) (v := .int .i64 8) rfl (by kernel_rfl) (by kernel_rfl) (by kernel_rfl) (fun _ _ _ h => h) (Or.inl ⟨by rfl, fun w hSw => by go_simp⟩) trivial ?_
    simp only [AP]
    refine wpAnyH_take (i := 12) (v := .int .i64 256) rfl (by kernel_rfl) (by kernel_rfl) (by kernel_rfl) (fun _ _ _ h => h) (Or.inl ⟨by rfl, fun w hSw => by go_simp⟩) trivial ?_
    simp only [AP]
    refine wpAnyH_take (i := 13) (v := .int .i64 255) rfl (by kernel_rfl) (by kernel_rfl) (by kernel_rfl) (fun _ _ _ h => h) (Or.inl ⟨by rfl, fun w hSw => by go_simp⟩) trivial ?_
    simp only [AP]
    refine wpAnyH_take (i := 14) (v := .int .i64 (D : Int)) rfl (by kernel_rfl) (by kernel_rfl) (by kernel_rfl) (fun _ _ _ h => h) (Or.inl ⟨by rfl, fun w hSw => by go_simp⟩) trivial ?_
    simp only [AP]
    refine wpAnyH_take (i := 15) (v := .int .i64 (D : Int)) rfl (by kernel_rfl) (by kernel_rfl) (by kernel_rfl) (fun _ _ _ h => h) (Or.inl ⟨by rfl, fun w hSw => by go_simp⟩) trivial ?_
    simp only [AP]
    refine wpAnyH_done (by kernel_rfl) ?_ _
    go_wp2
    go_ret
    exact ⟨rfl, PT.out⟩

/-- A kind's numbers. -/
abbrev kindC (k : Nat × Nat × Nat) : List Value := [.int .i64 (k.1 : Int), .int .i64 (k.2.1 : Int), .int .i64 (k.2.2 : Int)]
theorem zeroK : (Try.prog.info? 157).bind (·.zero) = some (.agg (kindC (0, 0, 0)).toArray) := by kernel_rfl
theorem infoK : (Try.prog.info? 157).map (·.size) = some 3 := by kernel_rfl
theorem builtK3 : Try.prog.built 157 [(0, .int .i64 4), (1, .int .i64 67), (2, .int .i64 4)] = some (kindC (4, 67, 4)).toArray := by kernel_rfl
theorem builtK4 : Try.prog.built 157 [(0, .int .i64 8), (1, .int .i64 34), (2, .int .i64 0)] = some (kindC (8, 34, 0)).toArray := by kernel_rfl
theorem builtK0 : Try.prog.built 157 [] = some (kindC (0, 0, 0)).toArray := by kernel_rfl
theorem wpList_buildK {ops : Array Oper} {rest : List Oper} {o : Oper} {a : Act} {w : World} {Q : Exit → Act → World → Prop} (hg : o.guard = none) (parts : Array (Nat × Operand)) (ho : o.op = .build 157 parts) (l : List (Nat × Value)) (hl : (parts.map fun (i, x) => (i, a.eval x)).toList = l) (c : List Value)
    (hb : Try.prog.built 157 l = some c.toArray) (h : wpList Try.prog ops Q rest (a.put o.dst (.agg c.toArray)) w) : wpList Try.prog ops Q (o :: rest) a w := by
  refine wpList_plain hg fun _ hK => ?_
  have hb' : Try.prog.built 157 (parts.map fun (i, x) => (i, a.eval x)).toList = some c.toArray := by rw [hl, hb]
  refine wp_build 157 _ ho (by rw [hb']; rfl) ?_
  rw [hb']
  exact hK _ _ h
/-- Is it a kind's number? -/
def kindB (k : Int) : Bool := decide (k = 3 ∨ k = 4)

set_option maxRecDepth 100000 in
set_option maxHeartbeats 1000000 in
theorem kindOf_any (w : World) (k : Int) : Calls Try.prog 99 #[.int .i64 k] w fun e w' => e = .returned (.tuple #[.agg (kindC (parV k)).toArray, .bool (kindB k)]) ∧ Pure w w' := by
  by_cases h3 : k = 3
  · subst h3
    rw [show parV 3 = (4, 67, 4) from rfl, show kindB 3 = true from rfl]
    go_enter Try.func99, Try.ntmps99
    go_wp2_with (refine wpList_allocZ rfl 157 rfl (kindC (0, 0, 0)) zeroK ?_)
    intro g w1 e1 c1 t1 s1
    have lg : w.heap.size ≤ g := by omega
    clear e1
    go_wp2_with (first | (refine wpList_buildK rfl _ rfl _ rfl _ builtK3 ?_) | (refine wpList_store_blk rfl 157 _ _ rfl g _ (kindC (4, 67, 4)) _ rfl rfl c1 rfl (by rw [infoK]; rfl) (by simp [Value.oneCell']) ?_))
    intro w2 c2 t2 _
    have PT := Lib.hid (t1.trans t2 fun x hx e => by omega : Pure w w2)
    have HC := Lib.hid c2
    clear c1 t1 s1 c2 t2
    go_wp2
    exact bodyPost_ret (v := .tuple #[.agg (kindC (4, 67, 4)).toArray, .bool true]) (results_cell2 Try.results99 _ _ g _ (kindC (4, 67, 4)).toArray _ _ rfl HC.out Try.underlying157 rfl (by rw [infoK]; rfl)) rfl ⟨rfl, PT.out⟩
  · by_cases h4 : k = 4
    · subst h4
      rw [show parV 4 = (8, 34, 0) from rfl, show kindB 4 = true from rfl]
      go_enter Try.func99, Try.ntmps99
      go_wp2_with (refine wpList_allocZ rfl 157 rfl (kindC (0, 0, 0)) zeroK ?_)
      intro g w1 e1 c1 t1 s1
      have lg : w.heap.size ≤ g := by omega
      clear e1
      go_wp2_with (first | (refine wpList_buildK rfl _ rfl _ rfl _ builtK4 ?_) | (refine wpList_store_blk rfl 157 _ _ rfl g _ (kindC (8, 34, 0)) _ rfl rfl c1 rfl (by rw [infoK]; rfl) (by simp [Value.oneCell']) ?_))
      intro w2 c2 t2 _
      have PT := Lib.hid (t1.trans t2 fun x hx e => by omega : Pure w w2)
      have HC := Lib.hid c2
      clear c1 t1 s1 c2 t2
      go_wp2
      exact bodyPost_ret (v := .tuple #[.agg (kindC (8, 34, 0)).toArray, .bool true]) (results_cell2 Try.results99 _ _ g _ (kindC (8, 34, 0)).toArray _ _ rfl HC.out Try.underlying157 rfl (by rw [infoK]; rfl)) rfl ⟨rfl, PT.out⟩
    · have q3 : (k == 3) = false := by simp; exact h3
      have q4 : (k == 4) = false := by simp; exact h4
      have e : parV k = (0, 0, 0) := by rw [parV, if_neg h3, if_neg h4]
      have e2 : kindB k = false := decide_eq_false (by omega)
      rw [e, e2]
      clear e e2 h3 h4
      go_enter Try.func99, Try.ntmps99
      go_wp2_with (refine wpList_allocZ rfl 157 rfl (kindC (0, 0, 0)) zeroK ?_)
      intro g w1 e1 c1 t1 s1
      have lg : w.heap.size ≤ g := by omega
      clear e1
      go_wp2_with (first | (refine wpList_buildK rfl _ rfl _ rfl _ builtK0 ?_) | (refine wpList_store_blk rfl 157 _ _ rfl g _ (kindC (0, 0, 0)) _ rfl rfl c1 rfl (by rw [infoK]; rfl) (by simp [Value.oneCell']) ?_))
      intro w2 c2 t2 _
      have PT := Lib.hid (t1.trans t2 fun x hx e => by omega : Pure w w2)
      have HC := Lib.hid c2
      clear c1 t1 s1 c2 t2
      go_wp2
      exact bodyPost_ret (v := .tuple #[.agg (kindC (0, 0, 0)).toArray, .bool false]) (results_cell2 Try.results99 _ _ g _ (kindC (0, 0, 0)).toArray _ _ rfl HC.out Try.underlying157 rfl (by rw [infoK]; rfl)) rfl ⟨rfl, PT.out⟩
end Go.Proofs.Ytcfbmbhkdicpfaa
