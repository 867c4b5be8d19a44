/- Chapter 4, the program: what may not be signed; sizes. -/
import Derived.Test.YtmifchdmlbcclaaOtsF
import Derived.Test.YtmifchdmlbcclaaOtsH
namespace Go.Proofs.Ytmifchdmlbcclaa
open Go.RowKit

set_option maxRecDepth 100000 in
set_option maxHeartbeats 2000000 in
theorem Sign_bad (w : World) (k : Int) (id seed msg : List UInt8) (q : Int) (hid : id.length ≤ 140737488351232) (hbad : ¬ (kindB k = true ∧ placeB id q = true ∧ seed.length = 32 ∧ msg.length ≤ 65536)) :
    Calls Try.prog 15 #[.int .i64 k, .string (bstr id), .int .i64 q, .string (bstr seed), .string (bstr msg)] w fun e w' => e = .returned (.tuple #[.string ⟨#[]⟩, .int .i64 400]) ∧ Pure w w' := by
  have hko := fun W => kindOf_any W k
  have hpo := fun W => placeOf_any id q W hid
  have zs := bstr_size seed
  have zm := bstr_size msg
  generalize parV k = K3 at hko
  generalize kindB k = KB at hko hbad
  generalize placeB id q = PB at hpo hbad
  generalize id ++ beI q 4 = HD at hpo
  obtain ⟨n, hn⟩ : ∃ n, n = seed.length := ⟨_, rfl⟩
  obtain ⟨m, hm⟩ : ∃ m, m = msg.length := ⟨_, rfl⟩
  rw [← hn] at zs hbad
  rw [← hm] at zm hbad
  clear hn hm
  have HPO := Lib.hid hpo
  cases KB with
  | false =>
    have HKO := Lib.hid hko
    clear hko hpo hbad
    go_enter Try.func15, Try.ntmps15
    go_wp2_with fail
    refine (HKO.out _).mono ?_
    rintro e w2 ⟨rfl, t2⟩
    have PT := Lib.hid t2
    clear t2
    go_wp2_with (refine wpList_allocZ rfl 64 rfl (kindC (0, 0, 0)) zeroK ?_)
    intro g12 w3 e3 c3 t3 s3
    have l12 : w.heap.size ≤ g12 := by have := PT.out.size; omega
    clear e3
    go_wp2_with (refine wpList_store_blk rfl 64 _ _ rfl g12 _ (kindC K3) _ rfl rfl c3 rfl (by rw [infoK]; rfl) (by simp [Value.oneCell']) ?_)
    intro w4 c4 t4 s4
    have PT := Lib.hid ((PT.out.pure t3).trans t4 fun x hx e => by omega : Pure w w4)
    clear c3 t3 s3 c4 t4 s4
    go_wp2_with fail
    refine (HPO.out _).mono ?_
    rintro e w5 ⟨rfl, t5⟩
    have PT := Lib.hid (PT.out.pure t5)
    clear t5 HKO HPO
    go_wp2
    go_ret2
    exact ⟨rfl, PT.out⟩
  | true =>
    have HKO := Lib.hid hko
    cases PB with
    | false =>
      clear hko hpo hbad
      go_enter Try.func15, Try.ntmps15
      go_wp2_with fail
      refine (HKO.out _).mono ?_
      rintro e w2 ⟨rfl, t2⟩
      have PT := Lib.hid t2
      clear t2
      go_wp2_with (refine wpList_allocZ rfl 64 rfl (kindC (0, 0, 0)) zeroK ?_)
      intro g12 w3 e3 c3 t3 s3
      have l12 : w.heap.size ≤ g12 := by have := PT.out.size; omega
      clear e3
      go_wp2_with (refine wpList_store_blk rfl 64 _ _ rfl g12 _ (kindC K3) _ rfl rfl c3 rfl (by rw [infoK]; rfl) (by simp [Value.oneCell']) ?_)
      intro w4 c4 t4 s4
      have PT := Lib.hid ((PT.out.pure t3).trans t4 fun x hx e => by omega : Pure w w4)
      clear c3 t3 s3 c4 t4 s4
      go_wp2_with fail
      refine (HPO.out _).mono ?_
      rintro e w5 ⟨rfl, t5⟩
      have PT := Lib.hid (PT.out.pure t5)
      clear t5 HKO HPO
      go_wp2
      go_ret2
      exact ⟨rfl, PT.out⟩
    | true =>
      by_cases h32 : n = 32
      · have q1 : ((n : Int) != 32) = false := by simp; omega
        have q2 : (n != 32) = false := by simp; omega
        have hm2 : ¬ m ≤ 65536 := fun h => hbad ⟨rfl, rfl, h32, h⟩
        have q3 : decide ((65536 : Int) < m) = true := decide_eq_true (by omega)
        have q4 : decide (65536 < m) = true := decide_eq_true (by omega)
        clear hko hpo hbad h32 hm2
        go_enter Try.func15, Try.ntmps15
        go_wp2_with fail
        refine (HKO.out _).mono ?_
        rintro e w2 ⟨rfl, t2⟩
        have PT := Lib.hid t2
        clear t2
        go_wp2_with (refine wpList_allocZ rfl 64 rfl (kindC (0, 0, 0)) zeroK ?_)
        intro g12 w3 e3 c3 t3 s3
        have l12 : w.heap.size ≤ g12 := by have := PT.out.size; omega
        clear e3
        go_wp2_with (refine wpList_store_blk rfl 64 _ _ rfl g12 _ (kindC K3) _ rfl rfl c3 rfl (by rw [infoK]; rfl) (by simp [Value.oneCell']) ?_)
        intro w4 c4 t4 s4
        have PT := Lib.hid ((PT.out.pure t3).trans t4 fun x hx e => by omega : Pure w w4)
        clear c3 t3 s3 c4 t4 s4
        go_wp2_with fail
        refine (HPO.out _).mono ?_
        rintro e w5 ⟨rfl, t5⟩
        have PT := Lib.hid (PT.out.pure t5)
        clear t5 HKO HPO
        go_wp2
        go_ret2
        exact ⟨rfl, PT.out⟩
      · have q1 : ((n : Int) != 32) = true := by simp; omega
        have q2 : (n != 32) = true := by simp; omega
        clear hko hpo hbad h32
        go_enter Try.func15, Try.ntmps15
        go_wp2_with fail
        refine (HKO.out _).mono ?_
        rintro e w2 ⟨rfl, t2⟩
        have PT := Lib.hid t2
        clear t2
        go_wp2_with (refine wpList_allocZ rfl 64 rfl (kindC (0, 0, 0)) zeroK ?_)
        intro g12 w3 e3 c3 t3 s3
        have l12 : w.heap.size ≤ g12 := by have := PT.out.size; omega
        clear e3
        go_wp2_with (refine wpList_store_blk rfl 64 _ _ rfl g12 _ (kindC K3) _ rfl rfl c3 rfl (by rw [infoK]; rfl) (by simp [Value.oneCell']) ?_)
        intro w4 c4 t4 s4
        have PT := Lib.hid ((PT.out.pure t3).trans t4 fun x hx e => by omega : Pure w w4)
        clear c3 t3 s3 c4 t4 s4
        go_wp2_with fail
        refine (HPO.out _).mono ?_
        rintro e w5 ⟨rfl, t5⟩
        have PT := Lib.hid (PT.out.pure t5)
        clear t5 HKO HPO
        go_wp2
        go_ret2
        exact ⟨rfl, PT.out⟩

set_option maxHeartbeats 1000000 in
theorem Size_any (w : World) (k : Int) : Calls Try.prog 70 #[.int .i64 k] w fun e w' => e = .returned (.tuple #[.int .i64 ((36 + 32 * (parV k).2.1 : Nat) : Int), .bool (kindB k)]) ∧ Pure w w' := by
  have hko := fun W => kindOf_any W k
  have hp : (parV k).2.1 ≤ 67 := by rw [parV]; split; · decide
                                    split <;> decide
  obtain ⟨K3, hK3⟩ : ∃ K3, K3 = parV k := ⟨_, rfl⟩
  rw [← hK3] at hko hp ⊢
  generalize kindB k = KB at hko ⊢
  clear hK3
  obtain ⟨a, p, c⟩ := K3
  dsimp only at hp ⊢
  have HKO := Lib.hid hko
  have i1 : IntKind.i64.wrap (1 + (p : Int)) = ((1 + p : Nat) : Int) := by rw [IntWalk.i64_in _ (by omega)]; omega
  have i2 : IntKind.i64.wrap (32 * ((1 + p : Nat) : Int)) = ((32 + 32 * p : Nat) : Int) := by rw [IntWalk.i64_in _ (by omega)]; omega
  have i3 : IntKind.i64.wrap (4 + ((32 + 32 * p : Nat) : Int)) = ((36 + 32 * p : Nat) : Int) := by rw [IntWalk.i64_in _ (by omega)]; omega
  clear hko
  go_enter Try.func70, Try.ntmps70
  go_wp2_with fail
  refine (HKO.out _).mono ?_
  rintro e w2 ⟨rfl, t2⟩
  have PT := Lib.hid t2
  clear t2
  go_wp2_with (refine wpList_allocZ rfl 64 rfl (kindC (0, 0, 0)) zeroK ?_)
  intro g4 w3 e3 c3 t3 s3
  have l4 : w.heap.size ≤ g4 := by have := PT.out.size; omega
  clear e3
  go_wp2_with (refine wpList_store_blk rfl 64 _ _ rfl g4 _ (kindC (a, p, c)) _ rfl rfl c3 rfl (by rw [infoK]; rfl) (by simp [Value.oneCell']) ?_)
  intro w4 c4 t4 s4
  have PT := Lib.hid ((PT.out.pure t3).trans t4 fun x hx e => by omega : Pure w w4)
  have k1 : w4.cell? ⟨g4, 1, none⟩ = some (.int .i64 (p : Int)) := by rw [cell_of_row w4 g4 1 _ _ _ c4]; rfl
  clear c3 t3 s3 c4 t4 s4
  go_wp2
  go_ret2
  have e : ((36 + 32 * p : Nat) : Int) = 4 + 32 * (1 + (p : Int)) := by omega
  rw [e]
  exact ⟨rfl, PT.out⟩
end Go.Proofs.Ytmifchdmlbcclaa
