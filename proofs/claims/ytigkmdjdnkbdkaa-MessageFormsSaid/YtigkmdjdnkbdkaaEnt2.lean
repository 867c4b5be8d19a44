/- Chapter 19: a vector is written. -/
import Derived.Test.YtigkmdjdnkbdkaaEnt1
import Derived.Test.YtigkmdjdnkbdkaaOwnK
import Derived.Test.YtigkmdjdnkbdkaaH28
namespace Go.Proofs.Ytigkmdjdnkbdkaa
open Go.RowKit
set_option maxRecDepth 100000

theorem OwnK.next {T : TypeId} {w0 w w' : World} {g K : Nat} {bs : List UInt8} (h : OwnK T w0 w g bs K) (ht : Pure w w') : OwnK T w0 w' g bs K := by
  obtain ⟨v, h1, h2, h3⟩ := h
  exact ⟨v, h1.turn ht (fun _ _ e => e), h2, h3.pure ht⟩
def WrCell (w : World) (K g : Nat) : Prop := w.heap[K]? = some (.cells #[.pointer (some ⟨g, 0, none⟩)] 51 (0, 0))
theorem WrCell.at {w : World} {K g : Nat} (h : WrCell w K g) : w.cell? ⟨K, 0, none⟩ = some (.pointer (some ⟨g, 0, none⟩)) := by rw [cell_of_row w K 0 _ _ _ h]; rfl
theorem WrCell.lt {w : World} {K g : Nat} (h : WrCell w K g) : K < w.heap.size := (Array.getElem?_eq_some_iff.1 h).1

set_option maxHeartbeats 2000000 in
theorem body1_any (w0 w : World) (g K : Nat) (bs : List UInt8) (x : Int) (h : OwnK 87 w0 w g bs K) (hK : WrCell w K g) :
    Calls Try.prog 70 #[.int .i64 x, .pointer (some ⟨K, 0, none⟩)] w fun e w' => e = .returned (.int .i64 (wrNum bs x 2).1) ∧ OwnK 87 w0 w' g (wrNum bs x 2).2 K ∧ WrCell w' K g := by
  have k1 := hK.at
  have HK := Lib.hid hK; have HO := Lib.hid h
  clear h hK
  go_enter Try.func70, Try.ntmps70
  go_wp2_with fail
  refine (WNum_k x 2 HO.out HK.out.lt).mono ?_
  rintro e w1 ⟨rfl, o1, s1⟩
  have HO := Lib.hid o1; have HK := Lib.hid (s1 _ HK.out)
  clear o1 s1 k1
  go_wp2
  go_ret
  exact ⟨rfl, HO.out, HK.out⟩

set_option maxHeartbeats 2000000 in
theorem eachInt_any (w0 w : World) (g K : Nat) (bs : List UInt8) (v : Value) (l : List Int) (hv : Ints w0 v l) (h : OwnK 87 w0 w g bs K) (hK : WrCell w K g) (hl : ∀ x ∈ l, 0 ≤ x ∧ x ≤ 256) (hn : l.length ≤ 16) (hb : bs.length ≤ 1000) :
    Calls Try.prog 69 #[v, .func (.func 70) #[] #[.pointer (some ⟨K, 0, none⟩)]] w fun e w' => e = .returned (.int .i64 0) ∧ OwnK 87 w0 w' g (bs ++ vecB l) K ∧ WrCell w' K g := by
  obtain ⟨ao, cap, rfl, hcap, hlen, hnil, hel⟩ := hv
  have HEL := Lib.hid hel; have HK := Lib.hid hK; have HO := Lib.hid h; have HL := Lib.hid hl; have HBB := Lib.hid hb
  obtain ⟨n, hnn⟩ : ∃ n, n = l.length := ⟨_, rfl⟩
  have HN := Lib.hid hnn
  rw [← hnn] at hn hcap ⊢
  clear hel hK h hl hnil hlen hnn hb
  go_enter Try.func69, Try.ntmps69
  go_wp2
  go_loopw [10] (fun i wr => ∃ j : Nat, j ≤ n ∧ i = .int .i64 (j : Int) ∧ Hid (OwnK 87 w0 wr g (bs ++ vecB (l.take j)) K) ∧ Hid (WrCell wr K g)) (fun i _ => n - (intOf i).toNat)
  case atStart => exact ⟨0, Nat.zero_le _, rfl, by simpa [vecB] using HO, HK⟩
  case round =>
    obtain ⟨j, hj, rfl, HO, HK⟩ := hrel
    by_cases hlt : j < n
    · have hjl : j < l.length := by have := HN.out; omega
      have q1 : (j : Int) < n := by omega
      have q0 : (0 : Int) ≤ j := by omega
      obtain ⟨x, hx⟩ : ∃ x, l[j]? = some x := ⟨l[j], List.getElem?_eq_getElem hjl⟩
      obtain ⟨_, _, b, o, hao, a4⟩ := HEL.out j x hx
      obtain ⟨x0, x1⟩ := HL.out x (List.mem_of_getElem? hx)
      have ca := HO.out.own.pure.cell a4 (fun e => e)
      subst hao
      have hvs : bs ++ vecB (l.take (j + 1)) = (bs ++ vecB (l.take j)) ++ beB x.toNat 2 := by
        rw [List.take_add_one, hx, vecB, vecB, List.flatMap_append, List.append_assoc]
        simp
      have hwn : wrNum (bs ++ vecB (l.take j)) x 2 = (0, bs ++ vecB (l.take (j + 1))) := by
        have := wrNum_fit (bs := bs ++ vecB (l.take j)) (x := x.toNat) (n := 2) (by omega) (by omega) (by rw [List.length_append, vecB_length, List.length_take]; have := HBB.out; have := HN.out; omega)
        rw [show ((x.toNat : Nat) : Int) = x by omega] at this
        rw [hvs]
        exact this
      have hb1 := fun W hO hK => body1_any w0 W g K (bs ++ vecB (l.take j)) x hO hK
      rw [hwn] at hb1
      have HB1 := Lib.hid hb1
      have i1 : IntKind.i64.wrap ((j : Int) + 1) = ((j + 1 : Nat) : Int) := by rw [IntWalk.i64_in _ (by omega)]; omega
      have I1 := Lib.hid i1
      clear hb1 hwn hvs x0 x1 i1 hjl hx
      go_wp2_with fail
      refine (HB1.out _ HO.out HK.out).mono ?_
      rintro e w1 ⟨rfl, o1, s1⟩
      have HO := Lib.hid o1; have HK := Lib.hid s1
      have i1 := I1.out
      clear o1 s1 ca
      go_wp2
      exact ⟨⟨j + 1, by omega, by first | rfl | trivial, HO, HK⟩, by simp [intOf]; omega⟩
    · obtain rfl : j = n := by omega
      have q1 : ¬ ((j : Int) < j) := by omega
      have ht : l.take j = l := by rw [HN.out, List.take_length]
      rw [ht] at HO
      go_wp2
      go_ret
      exact ⟨rfl, HO.out, HK.out⟩

set_option maxHeartbeats 2000000 in
theorem eachHash_any (w0 w : World) (g K : Nat) (bs : List UInt8) (v : Value) (l : List (List UInt8)) (hv : Rows u8s 32 w0 v l) (h : OwnK 87 w0 w g bs K) (hK : WrCell w K g) (hn : l.length ≤ 255) (hb : bs.length ≤ 10000) :
    Calls Try.prog 64 #[v, .func (.func 45) #[.pointer (some ⟨g, 0, none⟩)] #[]] w fun e w' => e = .returned (.int .i64 0) ∧ OwnK 87 w0 w' g (bs ++ l.flatten) K ∧ WrCell w' K g := by
  obtain ⟨X, hXl, HZ⟩ := ex28
  obtain ⟨ao, cap, rfl, hcap, hel, h32⟩ := hv
  have h32' : ∀ t ∈ l, t.length = 32 := fun t ht => by have := h32 t ht; rwa [u8s_length] at this
  have HEL := Lib.hid hel; have H32 := Lib.hid h32; have H3 := Lib.hid h32'; have HK := Lib.hid hK; have HO := Lib.hid h; have HBB := Lib.hid hb
  obtain ⟨n, hnn⟩ : ∃ n, n = l.length := ⟨_, rfl⟩
  have HN := Lib.hid hnn
  rw [← hnn] at hn hcap ⊢
  clear hel hK h h32 h32' hnn hb
  go_enter Try.func64, Try.ntmps64
  go_wp2
  go_loopw [10] (fun i wr => ∃ j : Nat, j ≤ n ∧ i = .int .i64 (j : Int) ∧ Hid (OwnK 87 w0 wr g (bs ++ (l.take j).flatten) K) ∧ Hid (WrCell wr K g)) (fun i _ => n - (intOf i).toNat)
  case atStart => exact ⟨0, Nat.zero_le _, rfl, by simpa using HO, HK⟩
  case round =>
    obtain ⟨j, hj, rfl, HO, HK⟩ := hrel
    by_cases hlt : j < n
    · have hjl : j < l.length := by have := HN.out; omega
      have q1 : (j : Int) < n := by omega
      have q0 : (0 : Int) ≤ j := by omega
      obtain ⟨x, hx⟩ : ∃ x, l[j]? = some x := ⟨l[j], List.getElem?_eq_getElem hjl⟩
      have hxl : x.length = 32 := H3.out x (List.mem_of_getElem? hx)
      obtain ⟨b, o, hao, hr⟩ := HEL.out (fun e => by rw [e] at hjl; simp at hjl)
      have R := Lib.hid (HO.out.own.pure.range (rowOf_at l o j x hx hr H32.out) (fun e => e))
      subst hao
      have hvs : bs ++ (l.take (j + 1)).flatten = (bs ++ (l.take j).flatten) ++ x := by
        rw [List.take_add_one, hx]
        simp
      have hwn : wrPut (bs ++ (l.take j).flatten) x = (0, bs ++ (l.take (j + 1)).flatten) := by
        rw [hvs, wrPut_fit (by rw [List.length_append, flat_length (fun t ht => H3.out t (List.mem_of_mem_take ht)), List.length_take]; have := HBB.out; have := HN.out; omega) (by omega)]
      have HW := Lib.hid hwn
      have i1 : IntKind.i64.wrap ((j : Int) + 1) = ((j + 1 : Nat) : Int) := by rw [IntWalk.i64_in _ (by omega)]; omega
      have I1 := Lib.hid i1
      clear hwn hvs i1 hjl hx hr
      go_wp2_with (first | (refine wpList_load_mid rfl 45 _ rfl b (o + j * 32) rfl (u8s x) _ R.out Try.underlying45 rfl (info28_l hxl) ?_) | (refine wpList_allocZ rfl 45 rfl X HZ.out ?_))
      intro g6 w1 e1 c1 t1 s1
      have l6 : wr.heap.size ≤ g6 := by omega
      clear e1 s1
      go_wp2_with (refine wpList_store_blk rfl 45 _ _ rfl g6 _ (u8s x) _ rfl rfl c1 (size28 hXl hxl) (info28_l hxl) (u8s_one _) ?_)
      intro w2 d2 t2 _
      have hp : Pure wr w2 := t1.trans t2 fun q hq e => by omega
      have HO := Lib.hid (HO.out.next hp); have HK : Hid (WrCell w2 K g) := Lib.hid (hp.obj HK.out (fun e => e))
      have R6 := range_of_row d2
      have hb1 := WHash_k x HO.out hxl HK.out.lt
      rw [HW.out] at hb1
      have HB1 := Lib.hid hb1
      clear c1 t1 d2 t2 hp hb1 R
      go_wp2_with (refine wpList_load_mid rfl 45 _ rfl g6 0 rfl (u8s x) _ R6 Try.underlying45 rfl (info28_l hxl) ?_)
      clear R6
      refine (HB1.out).mono ?_
      rintro e w3 ⟨rfl, o3, s3⟩
      have HO := Lib.hid o3; have HK : Hid (WrCell w3 K g) := Lib.hid (s3 _ HK.out)
      have i1 := I1.out
      clear o3 s3 HB1
      go_wp2
      exact ⟨⟨j + 1, by omega, by first | rfl | trivial, HO, HK⟩, by simp [intOf]; omega⟩
    · obtain rfl : j = n := by omega
      have q1 : ¬ ((j : Int) < j) := by omega
      have ht : l.take j = l := by rw [HN.out, List.take_length]
      rw [ht] at HO
      go_wp2
      go_ret
      exact ⟨rfl, HO.out, HK.out⟩
end Go.Proofs.Ytigkmdjdnkbdkaa
