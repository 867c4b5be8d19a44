/- Chapter 4, the program: what may not be signed; sizes. Chapter 4, the program: the kind that a signature says. -/
import Derived.Test.YtcfbmbhkdicpfaaOtsF
import Derived.Test.YtcfbmbhkdicpfaaOtsD
namespace Go.Proofs.Ytcfbmbhkdicpfaa
open Go.RowKit

set_option maxRecDepth 100000 in
set_option maxHeartbeats 2000000 in
theorem Sign_bad (w : World) (k : Int) (id seed msg : List UInt8) (q : Int) (hid : id.length ≤ 140737488351232) (hbad : ¬ (kindB k = true ∧ placeB id q = true ∧ seed.length = 32 ∧ msg.length ≤ 65536)) :
    Calls Try.prog 86 #[.int .i64 k, .string (bstr id), .int .i64 q, .string (bstr seed), .string (bstr msg)] w fun e w' => e = .returned (.tuple #[.string ⟨#[]⟩, .int .i64 400]) ∧ Pure w w' := by
  have hko := fun W => kindOf_any W k
  have hpo := fun W => placeOf_any id q W hid
  have zs := bstr_size seed
  have zm := bstr_size msg
  generalize parV k = K3 at hko
  generalize kindB k = KB at hko hbad
  generalize placeB id q = PB at hpo hbad
  generalize id ++ beI q 4 = HD at hpo
  obtain ⟨n, hn⟩ : ∃ n, n = seed.length := ⟨_, rfl⟩
  obtain ⟨m, hm⟩ : ∃ m, m = msg.length := ⟨_, rfl⟩
  rw [← hn] at zs hbad
  rw [← hm] at zm hbad
  clear hn hm
  have HPO := Lib.hid hpo
  cases KB with
  | false =>
    have HKO := Lib.hid hko
    clear hko hpo hbad
    go_enter Try.func86, Try.ntmps86
    go_wp2_with fail
    refine (HKO.out _).mono ?_
    rintro e w2 ⟨rfl, t2⟩
    have PT := Lib.hid t2
    clear t2
    go_wp2_with (refine wpList_allocZ rfl 157 rfl (kindC (0, 0, 0)) zeroK ?_)
    intro g12 w3 e3 c3 t3 s3
    have l12 : w.heap.size ≤ g12 := by have := PT.out.size; omega
    clear e3
    go_wp2_with (refine wpList_store_blk rfl 157 _ _ rfl g12 _ (kindC K3) _ rfl rfl c3 rfl (by rw [infoK]; rfl) (by simp [Value.oneCell']) ?_)
    intro w4 c4 t4 s4
    have PT := Lib.hid ((PT.out.pure t3).trans t4 fun x hx e => by omega : Pure w w4)
    clear c3 t3 s3 c4 t4 s4
    go_wp2_with fail
    refine (HPO.out _).mono ?_
    rintro e w5 ⟨rfl, t5⟩
    have PT := Lib.hid (PT.out.pure t5)
    clear t5 HKO HPO
    go_wp2
    go_ret2
    exact ⟨rfl, PT.out⟩
  | true =>
    have HKO := Lib.hid hko
    cases PB with
    | false =>
      clear hko hpo hbad
      go_enter Try.func86, Try.ntmps86
      go_wp2_with fail
      refine (HKO.out _).mono ?_
      rintro e w2 ⟨rfl, t2⟩
      have PT := Lib.hid t2
      clear t2
      go_wp2_with (refine wpList_allocZ rfl 157 rfl (kindC (0, 0, 0)) zeroK ?_)
      intro g12 w3 e3 c3 t3 s3
      have l12 : w.heap.size ≤ g12 := by have := PT.out.size; omega
      clear e3
      go_wp2_with (refine wpList_store_blk rfl 157 _ _ rfl g12 _ (kindC K3) _ rfl rfl c3 rfl (by rw [infoK]; rfl) (by simp [Value.oneCell']) ?_)
      intro w4 c4 t4 s4
      have PT := Lib.hid ((PT.out.pure t3).trans t4 fun x hx e => by omega : Pure w w4)
      clear c3 t3 s3 c4 t4 s4
      go_wp2_with fail
      refine (HPO.out _).mono ?_
      rintro e w5 ⟨rfl, t5⟩
      have PT := Lib.hid (PT.out.pure t5)
      clear t5 HKO HPO
      go_wp2
      go_ret2
      exact ⟨rfl, PT.out⟩
    | true =>
      by_cases h32 : n = 32
      · have q1 : ((n : Int) != 32) = false := by simp; omega
        have q2 : (n != 32) = false := by simp; omega
        have hm2 : ¬ m ≤ 65536 := fun h => hbad ⟨rfl, rfl, h32, h⟩
        have q3 : decide ((65536 : Int) < m) = true := decide_eq_true (by omega)
        have q4 : decide (65536 < m) = true := decide_eq_true (by omega)
        clear hko hpo hbad h32 hm2
        go_enter Try.func86, Try.ntmps86
        go_wp2_with fail
        refine (HKO.out _).mono ?_
        rintro e w2 ⟨rfl, t2⟩
        have PT := Lib.hid t2
        clear t2
        go_wp2_with (refine wpList_allocZ rfl 157 rfl (kindC (0, 0, 0)) zeroK ?_)
        intro g12 w3 e3 c3 t3 s3
        have l12 : w.heap.size ≤ g12 := by have := PT.out.size; omega
        clear e3
        go_wp2_with (refine wpList_store_blk rfl 157 _ _ rfl g12 _ (kindC K3) _ rfl rfl c3 rfl (by rw [infoK]; rfl) (by simp [Value.oneCell']) ?_)
        intro w4 c4 t4 s4
        have PT := Lib.hid ((PT.out.pure t3).trans t4 fun x hx e => by omega : Pure w w4)
        clear c3 t3 s3 c4 t4 s4
        go_wp2_with fail
        refine (HPO.out _).mono ?_
        rintro e w5 ⟨rfl, t5⟩
        have PT := Lib.hid (PT.out.pure t5)
        clear t5 HKO HPO
        go_wp2
        go_ret2
        exact ⟨rfl, PT.out⟩
      · have q1 : ((n : Int) != 32) = true := by simp; omega
        have q2 : (n != 32) = true := by simp; omega
        clear hko hpo hbad h32
        go_enter Try.func86, Try.ntmps86
        go_wp2_with fail
        refine (HKO.out _).mono ?_
        rintro e w2 ⟨rfl, t2⟩
        have PT := Lib.hid t2
        clear t2
        go_wp2_with (refine wpList_allocZ rfl 157 rfl (kindC (0, 0, 0)) zeroK ?_)
        intro g12 w3 e3 c3 t3 s3
        have l12 : w.heap.size ≤ g12 := by have := PT.out.size; omega
        clear e3
        go_wp2_with (refine wpList_store_blk rfl 157 _ _ rfl g12 _ (kindC K3) _ rfl rfl c3 rfl (by rw [infoK]; rfl) (by simp [Value.oneCell']) ?_)
        intro w4 c4 t4 s4
        have PT := Lib.hid ((PT.out.pure t3).trans t4 fun x hx e => by omega : Pure w w4)
        clear c3 t3 s3 c4 t4 s4
        go_wp2_with fail
        refine (HPO.out _).mono ?_
        rintro e w5 ⟨rfl, t5⟩
        have PT := Lib.hid (PT.out.pure t5)
        clear t5 HKO HPO
        go_wp2
        go_ret2
        exact ⟨rfl, PT.out⟩

set_option maxHeartbeats 1000000 in
theorem Size_any (w : World) (k : Int) : Calls Try.prog 96 #[.int .i64 k] w fun e w' => e = .returned (.tuple #[.int .i64 ((36 + 32 * (parV k).2.1 : Nat) : Int), .bool (kindB k)]) ∧ Pure w w' := by
  have hko := fun W => kindOf_any W k
  have hp : (parV k).2.1 ≤ 67 := by rw [parV]; split; · decide
                                    split <;> decide
  obtain ⟨K3, hK3⟩ : ∃ K3, K3 = parV k := ⟨_, rfl⟩
  rw [← hK3] at hko hp ⊢
  generalize kindB k = KB at hko ⊢
  clear hK3
  obtain ⟨a, p, c⟩ := K3
  dsimp only at hp ⊢
  have HKO := Lib.hid hko
  have i1 : IntKind.i64.wrap (1 + (p : Int)) = ((1 + p : Nat) : Int) := by rw [IntWalk.i64_in _ (by omega)]; omega
  have i2 : IntKind.i64.wrap (32 * ((1 + p : Nat) : Int)) = ((32 + 32 * p : Nat) : Int) := by rw [IntWalk.i64_in _ (by omega)]; omega
  have i3 : IntKind.i64.wrap (4 + ((32 + 32 * p : Nat) : Int)) = ((36 + 32 * p : Nat) : Int) := by rw [IntWalk.i64_in _ (by omega)]; omega
  clear hko
  go_enter Try.func96, Try.ntmps96
  go_wp2_with fail
  refine (HKO.out _).mono ?_
  rintro e w2 ⟨rfl, t2⟩
  have PT := Lib.hid t2
  clear t2
  go_wp2_with (refine wpList_allocZ rfl 157 rfl (kindC (0, 0, 0)) zeroK ?_)
  intro g4 w3 e3 c3 t3 s3
  have l4 : w.heap.size ≤ g4 := by have := PT.out.size; omega
  clear e3
  go_wp2_with (refine wpList_store_blk rfl 157 _ _ rfl g4 _ (kindC (a, p, c)) _ rfl rfl c3 rfl (by rw [infoK]; rfl) (by simp [Value.oneCell']) ?_)
  intro w4 c4 t4 s4
  have PT := Lib.hid ((PT.out.pure t3).trans t4 fun x hx e => by omega : Pure w w4)
  have k1 : w4.cell? ⟨g4, 1, none⟩ = some (.int .i64 (p : Int)) := by rw [cell_of_row w4 g4 1 _ _ _ c4]; rfl
  clear c3 t3 s3 c4 t4 s4
  go_wp2
  go_ret2
  have e : ((36 + 32 * p : Nat) : Int) = 4 + 32 * (1 + (p : Int)) := by omega
  rw [e]
  exact ⟨rfl, PT.out⟩

/-- Four bytes as a number, as both programs put them together. -/
def k4V (s : List UInt8) : Int := bits .or .i64 (bits .or .i64 (bits .or .i64 (((s.getD 0 0).toNat : Int) * 16777216) (((s.getD 1 0).toNat : Int) * 65536)) (((s.getD 2 0).toNat : Int) * 256)) ((s.getD 3 0).toNat : Int)
/-- What a signature says of its kind; is it as long as that? -/
def kindSV (s : List UInt8) : Int × Bool := if s.length < 4 then (0, false) else (k4V s, kindB (k4V s) && decide (36 + 32 * (parV (k4V s)).2.1 = s.length))

set_option maxRecDepth 100000 in
set_option maxHeartbeats 2000000 in
theorem Kind_any (w : World) (s : List UInt8) (hs : s.length ≤ 140737488351232) : Calls Try.prog 97 #[.string (bstr s)] w fun e w' => e = .returned (.tuple #[.int .i64 (kindSV s).1, .bool (kindSV s).2]) ∧ Pure w w' := by
  have zs := bstr_size s
  by_cases h4 : s.length < 4
  · rw [kindSV, if_pos h4]
    have q1 : decide ((s.length : Int) < 4) = true := decide_eq_true (by omega)
    have q2 : decide (s.length < 4) = true := decide_eq_true h4
    go_enter Try.func97, Try.ntmps97
    go_wp2
    go_ret2
    exact ⟨rfl, Turn.refl _ _⟩
  · rw [kindSV, if_neg h4]
    have q1 : decide ((s.length : Int) < 4) = false := decide_eq_false (by omega)
    have q2 : decide (s.length < 4) = false := decide_eq_false h4
    have ix0 := fun W => index_bstr W s 0 0 rfl (by omega)
    have ix1 := fun W => index_bstr W s 1 1 rfl (by omega)
    have ix2 := fun W => index_bstr W s 2 2 rfl (by omega)
    have ix3 := fun W => index_bstr W s 3 3 rfl (by omega)
    have b0 := (s.getD 0 0).toNat_lt
    have b1 := (s.getD 1 0).toNat_lt
    have b2 := (s.getD 2 0).toNat_lt
    have b3 := (s.getD 3 0).toNat_lt
    have hk : k4V s = bits .or .i64 (bits .or .i64 (bits .or .i64 (((s.getD 0 0).toNat : Int) * 16777216) (((s.getD 1 0).toNat : Int) * 65536)) (((s.getD 2 0).toNat : Int) * 256)) ((s.getD 3 0).toNat : Int) := rfl
    generalize (s.getD 0 0).toNat = c0 at ix0 b0 hk
    generalize (s.getD 1 0).toNat = c1 at ix1 b1 hk
    generalize (s.getD 2 0).toNat = c2 at ix2 b2 hk
    generalize (s.getD 3 0).toNat = c3 at ix3 b3 hk
    generalize k4V s = X3 at hk ⊢
    obtain ⟨X1, hX1⟩ : ∃ X1, X1 = bits .or .i64 ((c0 : Int) * 16777216) ((c1 : Int) * 65536) := ⟨_, rfl⟩
    rw [← hX1] at hk
    obtain ⟨X2, hX2⟩ : ∃ X2, X2 = bits .or .i64 X1 ((c2 : Int) * 256) := ⟨_, rfl⟩
    rw [← hX2] at hk
    have e1 : bits .or .i64 ((c0 : Int) * 16777216) ((c1 : Int) * 65536) = X1 := hX1.symm
    have e2 : bits .or .i64 X1 ((c2 : Int) * 256) = X2 := hX2.symm
    have e3 : bits .or .i64 X2 (c3 : Int) = X3 := hk.symm
    have v0 : IntKind.i64.wrap ((c0 : Int) * 16777216) = (c0 : Int) * 16777216 := IntWalk.i64_in _ (by omega)
    have v1 : IntKind.i64.wrap ((c1 : Int) * 65536) = (c1 : Int) * 65536 := IntWalk.i64_in _ (by omega)
    have v2 : IntKind.i64.wrap ((c2 : Int) * 256) = (c2 : Int) * 256 := IntWalk.i64_in _ (by omega)
    have y0 : IntKind.i64.wrap (c0 : Int) = c0 := IntWalk.i64_in _ (by omega)
    have y1 : IntKind.i64.wrap (c1 : Int) = c1 := IntWalk.i64_in _ (by omega)
    have y2 : IntKind.i64.wrap (c2 : Int) = c2 := IntWalk.i64_in _ (by omega)
    have y3 : IntKind.i64.wrap (c3 : Int) = c3 := IntWalk.i64_in _ (by omega)
    have hsz := fun W => Size_any W X3
    obtain ⟨N, hN⟩ : ∃ N, N = 36 + 32 * (parV X3).2.1 := ⟨_, rfl⟩
    rw [← hN] at hsz ⊢
    generalize kindB X3 = KB at hsz ⊢
    have HSZ := Lib.hid hsz
    obtain ⟨n, hn⟩ : ∃ n, n = s.length := ⟨_, rfl⟩
    rw [← hn] at zs q1 q2 ⊢
    clear hX1 hX2 hk hN hsz hn h4 hs
    go_enter Try.func97, Try.ntmps97
    go_wp2_with fail
    refine wp_region_held_drew (S := fun _ => True) (by kernel_rfl) trivial (fun _ => ?_)
    have PT := Lib.hid ((Turn.refl (fun _ => False) w).drew)
    generalize w.drew = w2 at *
    refine wpAnyH_take (i := 0) (v := .string (bstr s)) rfl (by kernel_rfl) (by kernel_rfl) (by kernel_rfl) (fun _ _ _ h => h) (Or.inl ⟨by rfl, fun w hSw => by go_simp⟩) trivial ?_
    simp only [AP]
    refine wpAnyH_take (i := 1) (v := .int .u8 (c0 : Int)) rfl (by kernel_rfl) (by kernel_rfl) (by kernel_rfl) (fun _ _ _ h => h) (Or.inl ⟨by rfl, fun w hSw => by go_simp⟩) trivial ?_
    simp only [AP]
    refine wpAnyH_take (i := 2) (v := .int .i64 (c0 : Int)) rfl (by kernel_rfl) (by kernel_rfl) (by kernel_rfl) (fun _ _ _ h => h) (Or.inl ⟨by rfl, fun w hSw => by go_simp⟩) trivial ?_
    simp only [AP]
    refine wpAnyH_take (i := 3) (v := .int .i64 ((c0 : Int) * 16777216)) rfl (by kernel_rfl) (by kernel_rfl) (by kernel_rfl) (fun _ _ _ h => h) (Or.inl ⟨by rfl, fun w hSw => by go_simp⟩) trivial ?_
    simp only [AP]
    refine wpAnyH_take (i := 4) (v := .string (bstr s)) rfl (by kernel_rfl) (by kernel_rfl) (by kernel_rfl) (fun _ _ _ h => h) (Or.inl ⟨by rfl, fun w hSw => by go_simp⟩) trivial ?_
    simp only [AP]
    refine wpAnyH_take (i := 5) (v := .int .u8 (c1 : Int)) rfl (by kernel_rfl) (by kernel_rfl) (by kernel_rfl) (fun _ _ _ h => h) (Or.inl ⟨by rfl, fun w hSw => by go_simp⟩) trivial ?_
    simp only [AP]
    refine wpAnyH_take (i := 6) (v := .int .i64 (c1 : Int)) rfl (by kernel_rfl) (by kernel_rfl) (by kernel_rfl) (fun _ _ _ h => h) (Or.inl ⟨by rfl, fun w hSw => by go_simp⟩) trivial ?_
    simp only [AP]
    refine wpAnyH_take (i := 7) (v := .int .i64 ((c1 : Int) * 65536)) rfl (by kernel_rfl) (by kernel_rfl) (by kernel_rfl) (fun _ _ _ h => h) (Or.inl ⟨by rfl, fun w hSw => by go_simp⟩) trivial ?_
    simp only [AP]
    refine wpAnyH_take (i := 8) (v := .int .i64 X1) rfl (by kernel_rfl) (by kernel_rfl) (by kernel_rfl) (fun _ _ _ h => h) (Or.inl ⟨by rfl, fun w hSw => by go_simp⟩) trivial ?_
    simp only [AP]
    refine wpAnyH_take (i := 9) (v := .string (bstr s)) rfl (by kernel_rfl) (by kernel_rfl) (by kernel_rfl) (fun _ _ _ h => h) (Or.inl ⟨by rfl, fun w hSw => by go_simp⟩) trivial ?_
    simp only [AP]
    refine wpAnyH_take (i := 10) (v := .int .u8 (c2 : Int)) rfl (by kernel_rfl) (by kernel_rfl) (by kernel_rfl) (fun _ _ _ h => h) (Or.inl ⟨by rfl, fun w hSw => by go_simp⟩) trivial ?_
    simp only [AP]
    refine wpAnyH_take (i := 11) (v := .int .i64 (c2 : Int)) rfl (by kernel_rfl) (by kernel_rfl) (by kernel_rfl) (fun _ _ _ h => h) (Or.inl ⟨by rfl, fun w hSw => by go_simp⟩) trivial ?_
    simp only [AP]
    refine wpAnyH_take (i := 12) (v := .int .i64 ((c2 : Int) * 256)) rfl (by kernel_rfl) (by kernel_rfl) (by kernel_rfl) (fun _ _ _ h => h) (Or.inl ⟨by rfl, fun w hSw => by go_simp⟩) trivial ?_
    simp only [AP]
    refine wpAnyH_take (i := 13) (v := .int .i64 X2) rfl (by kernel_rfl) (by kernel_rfl) (by kernel_rfl) (fun _ _ _ h => h) (Or.inl ⟨by rfl, fun w hSw => by go_simp⟩) trivial ?_
    simp only [AP]
    refine wpAnyH_take (i := 14) (v := .string (bstr s)) rfl (by kernel_rfl) (by kernel_rfl) (by kernel_rfl) (fun _ _ _ h => h) (Or.inl ⟨by rfl, fun w hSw => by go_simp⟩) trivial ?_
    simp only [AP]
    refine wpAnyH_take (i := 15) (v := .int .u8 (c3 : Int)) rfl (by kernel_rfl) (by kernel_rfl) (by kernel_rfl) (fun _ _ _ h => h) (Or.inl ⟨by rfl, fun w hSw => by go_simp⟩) trivial ?_
    simp only [AP]
    refine wpAnyH_take (i := 16) (v := .int .i64 (c3 : Int)) rfl (by kernel_rfl) (by kernel_rfl) (by kernel_rfl) (fun _ _ _ h => h) (Or.inl ⟨by rfl, fun w hSw => by go_simp⟩) trivial ?_
    simp only [AP]
    refine wpAnyH_take (i := 17) (v := .int .i64 X3) rfl (by kernel_rfl) (by kernel_rfl) (by kernel_rfl) (fun _ _ _ h => h) (Or.inl ⟨by rfl, fun w hSw => by go_simp⟩) trivial ?_
    simp only [AP]
    refine wpAnyH_take (i := 18) (v := .int .i64 X3) rfl (by kernel_rfl) (by kernel_rfl) (by kernel_rfl) (fun _ _ _ h => h) (Or.inl ⟨by rfl, fun w hSw => by go_simp⟩) trivial ?_
    simp only [AP]
    refine wpAnyH_done (by kernel_rfl) ?_ _
    clear e1 e2 e3 ix0 ix1 ix2 ix3
    cases KB with
    | false =>
      go_wp2_with fail
      refine (HSZ.out _).mono ?_
      rintro e w3 ⟨rfl, t3⟩
      have PT := Lib.hid (PT.out.pure t3)
      clear t3
      go_wp2
      go_ret2
      exact ⟨by rfl, PT.out⟩
    | true =>
      by_cases hl : N = n
      · have p1 : ((N : Int) == (n : Int)) = true := by simp; omega
        have p2 : (N == n) = true := by simp; omega
        have HDN := Lib.hid (decide_eq_true hl)
        clear hl
        go_wp2_with fail
        refine (HSZ.out _).mono ?_
        rintro e w3 ⟨rfl, t3⟩
        have PT := Lib.hid (PT.out.pure t3)
        clear t3
        go_wp2
        go_ret2
        exact ⟨by rw [HDN.out]; rfl, PT.out⟩
      · have p1 : ((N : Int) == (n : Int)) = false := by simp; omega
        have p2 : (N == n) = false := by simp; omega
        have HDN := Lib.hid (decide_eq_false hl)
        clear hl
        go_wp2_with fail
        refine (HSZ.out _).mono ?_
        rintro e w3 ⟨rfl, t3⟩
        have PT := Lib.hid (PT.out.pure t3)
        clear t3
        go_wp2
        go_ret2
        exact ⟨by rw [HDN.out]; rfl, PT.out⟩
end Go.Proofs.Ytcfbmbhkdicpfaa
