/- Chapter 19: an entry is written. -/
import Derived.Test.YtigkmdjdnkbdkaaEnt3
namespace Go.Proofs.Ytigkmdjdnkbdkaa
open Go.RowKit
set_option maxRecDepth 100000

theorem wrText2_fit {bs t : List UInt8} (hb : bs.length ≤ 20000) (ht : t.length ≤ 20000) : wrText bs t 2 = (0, bs ++ (beB t.length 2 ++ t)) := by
  have hf : fitsB (t.length : Int) 2 = true := by
    unfold fitsB
    have h1 : decide ((t.length : Int) < 256 ^ (2 : Int).toNat) = true := decide_eq_true (by simp; omega)
    rw [h1, decide_eq_true (by omega : (0 : Int) ≤ (t.length : Int))]; rfl
  unfold wrText
  rw [if_pos hf]
  unfold wrPut
  have hl : (beB t.length (2 : Int).toNat ++ t).length = 2 + t.length := by rw [List.length_append, beB_length]; rfl
  rw [if_pos (by rw [hl]; omega)]
  rfl
theorem body_length {e : EntP} (h : mayE e = true) (hf : e.fit) : (bodyV e).length ≤ 1000 := by
  obtain ⟨u, q, hu, hu2, hq, hq1, hq2, hv, ht1, ht2⟩ := mayE_parts h
  obtain ⟨_, hv2, hv3⟩ := mayB_parts hv
  have h1 := flat_length hf.2
  have h2 := vecB_length e.vec
  simp only [bodyV, List.length_append, beB_length, hf.1, h1, h2, List.length_cons, List.length_nil]
  omega

set_option maxHeartbeats 4000000 in
theorem eput_any (w : World) (e : Ent) (he : EntAt w e) (hs : e.p.sign.length ≤ 4611686018427387904) :
    Calls Try.prog 41 #[.agg (entC e).toArray] w fun x w' => x = .returned (.tuple #[.string (bstr (eputV e.p).1), .int .i64 (eputV e.p).2]) ∧ Pure w w' := by
  have HA := Lib.hid he
  obtain ⟨C, hC⟩ : ∃ C, C = entC e := ⟨_, rfl⟩
  rw [← hC]
  have HC := Lib.hid hC
  have hz := bstr_size e.p.sign
  clear hC he
  cases hm : mayE e.p with
  | false =>
    have hr : eputV e.p = ([], 1900) := by rw [eputV, if_neg (by simp [hm])]
    rw [hr]
    go_enter Try.func41, Try.ntmps41
    go_wp2_with (refine wpList_boxV rfl 47 _ rfl C rfl ?_)
    intro g1 w1 e1 c1 t1 s1
    have hx := emay_any w1 g1 e (by rw [← HC.out]; exact c1) (HA.out.pure t1)
    rw [hm] at hx
    have HX := Lib.hid hx; have PT := Lib.hid t1
    clear hx c1 t1 e1 s1
    go_wp2_with fail
    refine HX.out.mono ?_
    rintro x w2 ⟨rfl, rfl⟩
    go_wp2
    go_ret2
    exact ⟨rfl, PT.out⟩
  | true =>
    by_cases hl : e.p.sign.length ≤ 8192
    · have hr : eputV e.p = (bodyV e.p ++ (beB e.p.sign.length 2 ++ e.p.sign), 0) := by rw [eputV, if_pos ⟨hm, hl⟩]
      have hw := wrText2_fit (bs := bodyV e.p) (t := e.p.sign) (by have := body_length hm HA.out.fit; omega) (by omega)
      rw [hr]
      have HW := Lib.hid hw
      have q1 : decide ((8192 : Int) < (e.p.sign.length : Int)) = false := decide_eq_false (by omega)
      obtain ⟨N, hN⟩ : ∃ N, N = e.p.sign.length := ⟨_, rfl⟩
      rw [← hN] at hz q1
      have HN := Lib.hid hN
      clear hr hw hl hN
      go_enter Try.func41, Try.ntmps41
      go_wp2_with (refine wpList_boxV rfl 47 _ rfl C rfl ?_)
      intro g1 w1 e1 c1 t1 s1
      have hx := emay_any w1 g1 e (by rw [← HC.out]; exact c1) (HA.out.pure t1)
      rw [hm] at hx
      have HB := Lib.hid (ebody_any w1 g1 e (by rw [← HC.out]; exact c1) (HA.out.pure t1) hm)
      have k36 := (ent_at HA.out.root (by rw [← HC.out]; exact c1)).2.2.2.2.1
      have HX := Lib.hid hx; have PT := Lib.hid t1; have D1 := Lib.hid c1
      clear hx c1 t1 e1 s1
      go_wp2_with fail
      refine HX.out.mono ?_
      rintro x w2 ⟨rfl, rfl⟩
      go_wp2_with fail
      refine HB.out.mono ?_
      rintro x w3 ⟨g, rfl, o3⟩
      have HO := Lib.hid o3
      have k36 := (ent_at HA.out.root (by rw [← HC.out]; exact o3.pure.obj D1.out (fun e => e))).2.2.2.2.1
      clear o3
      go_wp2_with fail
      refine (WText_own e.p.sign 2 HO.out hs).mono ?_
      rintro x w4 ⟨rfl, o4⟩
      rw [HW.out] at o4 ⊢
      have HO := Lib.hid o4
      clear o4 k36
      go_wp2_with fail
      refine (WAll_own HO.out).mono ?_
      rintro x w5 ⟨rfl, rfl⟩
      go_wp2
      go_ret2
      exact ⟨rfl, PT.out.pure HO.out.pure⟩
    · have hr : eputV e.p = ([], 1900) := by rw [eputV, if_neg (by simp [hl])]
      rw [hr]
      have q1 : decide ((8192 : Int) < (e.p.sign.length : Int)) = true := decide_eq_true (by omega)
      obtain ⟨N, hN⟩ : ∃ N, N = e.p.sign.length := ⟨_, rfl⟩
      rw [← hN] at hz q1
      clear hr hl hN
      go_enter Try.func41, Try.ntmps41
      go_wp2_with (refine wpList_boxV rfl 47 _ rfl C rfl ?_)
      intro g1 w1 e1 c1 t1 s1
      have hx := emay_any w1 g1 e (by rw [← HC.out]; exact c1) (HA.out.pure t1)
      rw [hm] at hx
      have k36 := (ent_at HA.out.root (by rw [← HC.out]; exact c1)).2.2.2.2.1
      have HX := Lib.hid hx; have PT := Lib.hid t1
      clear hx c1 t1 e1 s1
      go_wp2_with fail
      refine HX.out.mono ?_
      rintro x w2 ⟨rfl, rfl⟩
      go_wp2
      go_ret2
      exact ⟨rfl, PT.out⟩
end Go.Proofs.Ytigkmdjdnkbdkaa
