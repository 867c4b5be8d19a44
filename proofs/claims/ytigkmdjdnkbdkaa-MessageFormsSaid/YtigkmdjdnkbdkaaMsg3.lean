/- Chapter 22: Put. -/
import Derived.Test.YtigkmdjdnkbdkaaMsg2
namespace Go.Proofs.Ytigkmdjdnkbdkaa
open Go.RowKit
set_option maxRecDepth 100000

set_option maxHeartbeats 4000000 in
theorem mPut_any (w : World) (m : Msg) (hm : MsgAt w m) :
    Calls Try.prog 7 #[.agg (msgC m).toArray] w fun e w' => e = .returned (.tuple #[.string (bstr (mputV m.p).1), .int .i64 (mputV m.p).2]) ∧ Pure w w' := by
  have hP := fun W W2 gm g (h0 : Pure w W) (hg : W.heap[gm]? = some (Obj.cells (msgC m).toArray 26 (0, 0))) (O : OwnW 87 W W2 g []) => mput_any W W2 gm g m hg (hm.pure h0) O
  have HP := Lib.hid hP
  have hcell : ∀ (W : World) g, W.heap[g]? = some (Obj.cells (msgC m).toArray 26 (0, 0)) → W.cell? ⟨g, 0, none⟩ = some (.int .i64 m.p.kind) := fun W g hg => (msg_at hg).1
  obtain ⟨C, hC⟩ : ∃ C, C = msgC m := ⟨_, rfl⟩
  rw [← hC] at HP hcell ⊢
  have HCE := Lib.hid hcell
  clear hC hcell hP hm
  by_cases h1 : 0 ≤ m.p.kind
  case neg =>
    have hr := mputV_bad m.p (by simp only [numOk, Bool.and_eq_false_iff, decide_eq_false_iff_not]; exact .inl h1)
    rw [hr]
    have q1 : decide (m.p.kind < 0) = true := decide_eq_true (by omega)
    clear h1 hr
    go_enter Try.func7, Try.ntmps7
    go_wp2_with (refine wpList_boxV rfl 26 _ rfl C rfl ?_)
    intro g1 w1 e1 c1 t1 s1
    have D1 := Lib.hid c1; have PT := Lib.hid t1
    clear c1 e1 s1 t1
    go_wp2_with fail
    refine (New_own (Turn.refl (fun _ => False) w1)).mono ?_
    rintro x w2 ⟨rfl, o2⟩
    have k0 := HCE.out _ _ (o2.pure.obj D1.out (fun e => e))
    have HO := Lib.hid o2
    clear o2
    go_wp2
    go_ret2
    exact ⟨rfl, PT.out.pure HO.out.pure⟩
  have q1 : decide (m.p.kind < 0) = false := decide_eq_false (by omega)
  by_cases h2 : m.p.kind ≤ 6
  case neg =>
    have hr := mputV_bad m.p (by simp only [numOk, Bool.and_eq_false_iff, decide_eq_false_iff_not]; exact .inr h2)
    rw [hr]
    have q2 : decide ((6 : Int) < m.p.kind) = true := decide_eq_true (by omega)
    clear h1 h2 hr
    go_enter Try.func7, Try.ntmps7
    go_wp2_with (refine wpList_boxV rfl 26 _ rfl C rfl ?_)
    intro g1 w1 e1 c1 t1 s1
    have D1 := Lib.hid c1; have PT := Lib.hid t1
    clear c1 e1 s1 t1
    go_wp2_with fail
    refine (New_own (Turn.refl (fun _ => False) w1)).mono ?_
    rintro x w2 ⟨rfl, o2⟩
    have k0 := HCE.out _ _ (o2.pure.obj D1.out (fun e => e))
    have HO := Lib.hid o2
    clear o2
    go_wp2
    go_ret2
    exact ⟨rfl, PT.out.pure HO.out.pure⟩
  have q2 : decide ((6 : Int) < m.p.kind) = false := decide_eq_false (by omega)
  have hr := mputV_of m.p (by simp only [numOk, Bool.and_eq_true, decide_eq_true_eq]; exact ⟨h1, h2⟩)
  rw [hr]
  obtain ⟨P, hP⟩ : ∃ P, P = wrMsg m.p := ⟨_, rfl⟩
  rw [← hP] at HP ⊢
  obtain ⟨er, b⟩ := P
  clear h1 h2 hr hP
  by_cases h0 : er = 0
  · subst h0
    simp only [if_true]
    go_enter Try.func7, Try.ntmps7
    go_wp2_with (refine wpList_boxV rfl 26 _ rfl C rfl ?_)
    intro g1 w1 e1 c1 t1 s1
    have D1 := Lib.hid c1; have PT := Lib.hid t1
    clear c1 e1 s1 t1
    go_wp2_with fail
    refine (New_own (Turn.refl (fun _ => False) w1)).mono ?_
    rintro x w2 ⟨rfl, o2⟩
    have k0 := HCE.out _ _ (o2.pure.obj D1.out (fun e => e))
    have HPC := Lib.hid (HP.out _ _ g1 _ PT.out D1.out o2)
    clear o2
    go_wp2_with fail
    refine HPC.out.mono ?_
    rintro x w3 ⟨rfl, o3⟩
    have HO := Lib.hid o3
    clear o3 HPC k0
    go_wp2_with fail
    refine (WAll_own HO.out).mono ?_
    rintro x w4 ⟨rfl, rfl⟩
    go_wp2
    go_ret2
    exact ⟨rfl, PT.out.pure HO.out.pure⟩
  · simp only [if_neg h0]
    have q5 : (er != 0) = true := by simpa using h0
    clear h0
    go_enter Try.func7, Try.ntmps7
    go_wp2_with (refine wpList_boxV rfl 26 _ rfl C rfl ?_)
    intro g1 w1 e1 c1 t1 s1
    have D1 := Lib.hid c1; have PT := Lib.hid t1
    clear c1 e1 s1 t1
    go_wp2_with fail
    refine (New_own (Turn.refl (fun _ => False) w1)).mono ?_
    rintro x w2 ⟨rfl, o2⟩
    have k0 := HCE.out _ _ (o2.pure.obj D1.out (fun e => e))
    have HPC := Lib.hid (HP.out _ _ g1 _ PT.out D1.out o2)
    clear o2
    go_wp2_with fail
    refine HPC.out.mono ?_
    rintro x w3 ⟨rfl, o3⟩
    have HO := Lib.hid o3
    clear o3 HPC k0
    go_wp2
    go_ret2
    exact ⟨rfl, PT.out.pure HO.out.pure⟩
end Go.Proofs.Ytigkmdjdnkbdkaa
