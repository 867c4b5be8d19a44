/- Chapter 4, the program: what makes no candidate. -/
import Derived.Test.YtmifchdmlbcclaaOtsI
import Derived.Test.YtmifchdmlbcclaaOtsL
namespace Go.Proofs.Ytmifchdmlbcclaa
open Go.RowKit

set_option maxRecDepth 100000 in
set_option maxHeartbeats 2000000 in
theorem Candidate_bad (w : World) (id msg sign : List UInt8) (q : Int) (hid : id.length ≤ 140737488351232) (hsg : sign.length ≤ 140737488351232) (hbad : ¬ ((kindSV sign).2 = true ∧ placeB id q = true ∧ msg.length ≤ 65536)) :
    Calls Try.prog 19 #[.string (bstr id), .int .i64 q, .string (bstr msg), .string (bstr sign)] w fun e w' => e = .returned (.tuple #[hv (List.replicate 32 0), .int .i64 400]) ∧ Pure w w' := by
  obtain ⟨X, hXl, HZ⟩ := ex28
  have hkd := fun W => Kind_any W sign hsg
  have hpo := fun W => placeOf_any id q W hid
  have zm := bstr_size msg
  generalize kindSV sign = KS at hkd hbad
  obtain ⟨kn, KB⟩ := KS
  dsimp only at hkd hbad
  generalize placeB id q = PB at hpo hbad
  generalize id ++ beI q 4 = HD at hpo
  obtain ⟨m, hm⟩ : ∃ m, m = msg.length := ⟨_, rfl⟩
  rw [← hm] at zm hbad
  clear hm
  have HKD := Lib.hid hkd; have HPO := Lib.hid hpo
  cases KB with
  | false =>
    clear hkd hpo hbad
    go_enter Try.func19, Try.ntmps19
    go_wp2_with (refine wpList_allocZ rfl 23 rfl X HZ.out ?_)
    intro g8 w1 e1 c1 t1 s1
    have l8 : w.heap.size ≤ g8 := by omega
    clear e1
    go_wp2_with fail
    refine (HKD.out _).mono ?_
    rintro e w2 ⟨rfl, t2⟩
    have D8 := Lib.hid (t2.obj c1 (fun e => e)); have PT := Lib.hid (t1.pure t2)
    clear c1 t1 s1 t2
    go_wp2_with fail
    refine (HPO.out _).mono ?_
    rintro e w5 ⟨rfl, t5⟩
    have D8 := Lib.hid (t5.obj D8.out (fun e => e)); have PT := Lib.hid (PT.out.pure t5)
    clear t5 HKD HPO
    go_wp2_with (first | (refine wpList_buildH0 rfl rfl ?_) | (refine wpList_store_blk rfl 23 _ _ rfl g8 _ (u8s (List.replicate 32 0)) _ rfl rfl D8.out (size28 hXl (by simp)) (info28_l (by simp)) (u8s_one _) ?_))
    intro w8 c8 t8 _
    have hO := Lib.hid c8
    have PF := Lib.hid (PT.out.trans t8 fun x hx e => by omega : Pure w w8)
    clear c8 t8
    go_wp2
    exact bodyPost_ret (v := .tuple #[hv (List.replicate 32 0), .int .i64 400]) (results_cell2 Try.results19 _ _ g8 _ (u8s (List.replicate 32 0)).toArray _ _ rfl hO.out Try.underlying23 rfl (info28_a (by simp))) rfl ⟨rfl, PF.out⟩
  | true =>
    cases PB with
    | false =>
      clear hkd hpo hbad
      go_enter Try.func19, Try.ntmps19
      go_wp2_with (refine wpList_allocZ rfl 23 rfl X HZ.out ?_)
      intro g8 w1 e1 c1 t1 s1
      have l8 : w.heap.size ≤ g8 := by omega
      clear e1
      go_wp2_with fail
      refine (HKD.out _).mono ?_
      rintro e w2 ⟨rfl, t2⟩
      have D8 := Lib.hid (t2.obj c1 (fun e => e)); have PT := Lib.hid (t1.pure t2)
      clear c1 t1 s1 t2
      go_wp2_with fail
      refine (HPO.out _).mono ?_
      rintro e w5 ⟨rfl, t5⟩
      have D8 := Lib.hid (t5.obj D8.out (fun e => e)); have PT := Lib.hid (PT.out.pure t5)
      clear t5 HKD HPO
      go_wp2_with (first | (refine wpList_buildH0 rfl rfl ?_) | (refine wpList_store_blk rfl 23 _ _ rfl g8 _ (u8s (List.replicate 32 0)) _ rfl rfl D8.out (size28 hXl (by simp)) (info28_l (by simp)) (u8s_one _) ?_))
      intro w8 c8 t8 _
      have hO := Lib.hid c8
      have PF := Lib.hid (PT.out.trans t8 fun x hx e => by omega : Pure w w8)
      clear c8 t8
      go_wp2
      exact bodyPost_ret (v := .tuple #[hv (List.replicate 32 0), .int .i64 400]) (results_cell2 Try.results19 _ _ g8 _ (u8s (List.replicate 32 0)).toArray _ _ rfl hO.out Try.underlying23 rfl (info28_a (by simp))) rfl ⟨rfl, PF.out⟩
    | true =>
      have hm2 : ¬ m ≤ 65536 := fun h => hbad ⟨rfl, rfl, h⟩
      have q3 : decide ((65536 : Int) < m) = true := decide_eq_true (by omega)
      have q4 : decide (65536 < m) = true := decide_eq_true (by omega)
      clear hkd hpo hbad hm2
      go_enter Try.func19, Try.ntmps19
      go_wp2_with (refine wpList_allocZ rfl 23 rfl X HZ.out ?_)
      intro g8 w1 e1 c1 t1 s1
      have l8 : w.heap.size ≤ g8 := by omega
      clear e1
      go_wp2_with fail
      refine (HKD.out _).mono ?_
      rintro e w2 ⟨rfl, t2⟩
      have D8 := Lib.hid (t2.obj c1 (fun e => e)); have PT := Lib.hid (t1.pure t2)
      clear c1 t1 s1 t2
      go_wp2_with fail
      refine (HPO.out _).mono ?_
      rintro e w5 ⟨rfl, t5⟩
      have D8 := Lib.hid (t5.obj D8.out (fun e => e)); have PT := Lib.hid (PT.out.pure t5)
      clear t5 HKD HPO
      go_wp2_with (first | (refine wpList_buildH0 rfl rfl ?_) | (refine wpList_store_blk rfl 23 _ _ rfl g8 _ (u8s (List.replicate 32 0)) _ rfl rfl D8.out (size28 hXl (by simp)) (info28_l (by simp)) (u8s_one _) ?_))
      intro w8 c8 t8 _
      have hO := Lib.hid c8
      have PF := Lib.hid (PT.out.trans t8 fun x hx e => by omega : Pure w w8)
      clear c8 t8
      go_wp2
      exact bodyPost_ret (v := .tuple #[hv (List.replicate 32 0), .int .i64 400]) (results_cell2 Try.results19 _ _ g8 _ (u8s (List.replicate 32 0)).toArray _ _ rfl hO.out Try.underlying23 rfl (info28_a (by simp))) rfl ⟨rfl, PF.out⟩
end Go.Proofs.Ytmifchdmlbcclaa
