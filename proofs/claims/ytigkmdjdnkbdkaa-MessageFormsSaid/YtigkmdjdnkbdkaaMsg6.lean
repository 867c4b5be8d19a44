/- Chapters 19 and 22: like entries, like messages. -/
import Derived.Test.YtigkmdjdnkbdkaaMsg5
namespace Go.Proofs.Ytigkmdjdnkbdkaa
open Go.RowKit
set_option maxRecDepth 100000

theorem sameI_eq (w : World) (v u : Value) (l : List Int) (h : Ints w v l) (k : Ints w u l) :
    Calls Try.prog 67 #[v, u] w fun e w' => e = .returned (.bool true) ∧ Pure w w' := by
  have := Same_any w v u l l h k
  rwa [decide_eq_true rfl] at this

set_option maxHeartbeats 4000000 in
theorem sameH_eq (w : World) (v u : Value) (l : List (List UInt8)) (h : Rows u8s 32 w v l) (k : Rows u8s 32 w u l) (hlen : l.length ≤ 4398046511104) :
    Calls Try.prog 37 #[v, u] w fun e w' => e = .returned (.bool true) ∧ Pure w w' := by
  obtain ⟨ao, c, rfl, h2, h3, h4⟩ := h
  obtain ⟨bo, d, rfl, k2, k3, k4⟩ := k
  have H3 := Lib.hid h3; have K3 := Lib.hid k3; have H4 := Lib.hid h4; have K4 := Lib.hid k4
  clear h3 k3 h4 k4
  obtain ⟨n, hn⟩ : ∃ n, n = l.length := ⟨_, rfl⟩
  have hnn : ((n : Int) != (n : Int)) = false := by simp
  rw [← hn] at hlen h2 k2 ⊢
  have HN := Lib.hid hn
  clear hn
  go_enter Try.func37, Try.ntmps37
  go_wp2
  go_loopw [4, 5] (fun _ i wr => ∃ j : Nat, j ≤ n ∧ i = .int .i64 (j : Int) ∧ Hid (Pure w wr)) (fun _ i _ => n - (intOf i).toNat)
  case atStart => exact ⟨0, by omega, by first | rfl | trivial, Lib.hid (Turn.refl _ _)⟩
  case round =>
    obtain ⟨j, hj, rfl, HP⟩ := hrel
    by_cases hlt : j < n
    · have hjl : j < l.length := by have := HN.out; omega
      have q1 : (j : Int) < n := by omega
      have q0 : (0 : Int) ≤ j := by omega
      have i3 : IntKind.i64.wrap ((j : Int) + 1) = ((j + 1 : Nat) : Int) := by rw [IntWalk.i64_in _ (by omega)]; omega
      have I3 := Lib.hid i3; clear i3
      obtain ⟨x, hx⟩ : ∃ x, l[j]? = some x := ⟨l[j], List.getElem?_eq_getElem hjl⟩
      have hxl : x.length = 32 := by have := H4.out x (List.mem_of_getElem? hx); rwa [u8s_length] at this
      have hjk := hjl
      have hy := hx
      obtain ⟨b, o, rfl, hr⟩ := H3.out (fun e => by rw [e] at hjl; simp at hjl)
      obtain ⟨b2, o2, rfl, kr⟩ := K3.out (fun e => by rw [e] at hjk; simp at hjk)
      have C1 := Lib.hid (HP.out.range (rowOf_at l o j x hx hr H4.out) (fun e => e)); have C2 := Lib.hid (HP.out.range (rowOf_at l o2 j x hy kr K4.out) (fun e => e))
      have nq : ∀ V : World, (binOp .neq 45 (hv x) (hv x)).run Try.prog V = .ok (.bool false) V := fun V => by rw [neq28 V hxl hxl, beq_self_eq_true]; rfl
      clear hr kr hx hy
      go_wp2_with fail
      refine wp_region_G (S := fun w' => Pure wr w' ∧ Held [] w') (T := fun _ _ _ => True) (by kernel_rfl) ⟨(Turn.refl _ _).drew, held_nil _⟩ trivial ?_
      have HG := Grow.held wr []
      refine atN 0 ?_
      iterate 3
        refine anyG_y HG (v := ?_) rfl (by kernel_rfl) (fun _ _ _ h => h) (fun _ _ _ => Iff.rfl) (Or.inl ⟨by rfl, fun w hSw => ?_⟩) ?_
        rotate_left
        · skip
          first | (go_simp; done) | (go_simp; with_reducible rfl)
        simp only [Nat.reduceAdd, AP]
      refine anyG_y HG (v := Value.agg (u8s x).toArray) rfl (by kernel_rfl) (fun _ _ _ h => h) (fun _ _ _ => Iff.rfl) (yieldsIf_load_mid (by rfl) 45 _ rfl b (o + j * 32) rfl ((u8s x)) _ (fun w hSw => hSw.1.range C1.out (fun e => e)) Try.underlying45 rfl (info28_l hxl)) ?_
      simp only [Nat.reduceAdd, AP]
      iterate 3
        refine anyG_y HG (v := ?_) rfl (by kernel_rfl) (fun _ _ _ h => h) (fun _ _ _ => Iff.rfl) (Or.inl ⟨by rfl, fun w hSw => ?_⟩) ?_
        rotate_left
        · skip
          first | (go_simp; done) | (go_simp; with_reducible rfl)
        simp only [Nat.reduceAdd, AP]
      refine anyG_y HG (v := Value.agg (u8s x).toArray) rfl (by kernel_rfl) (fun _ _ _ h => h) (fun _ _ _ => Iff.rfl) (yieldsIf_load_mid (by rfl) 45 _ rfl b2 (o2 + j * 32) rfl ((u8s x)) _ (fun w hSw => hSw.1.range C2.out (fun e => e)) Try.underlying45 rfl (info28_l hxl)) ?_
      simp only [Nat.reduceAdd, AP]
      iterate 1
        refine anyG_y HG (v := ?_) rfl (by kernel_rfl) (fun _ _ _ h => h) (fun _ _ _ => Iff.rfl) (Or.inl ⟨by rfl, fun w hSw => ?_⟩) ?_
        rotate_left
        · skip
          first | (go_simp; done) | (go_simp; with_reducible rfl)
        simp only [Nat.reduceAdd, AP]
      refine anyG_done (by kernel_rfl) (fun w2 hS _ => ?_) _
      obtain ⟨hpS, hS⟩ := hS
      clear HG
      have HP := Lib.hid (HP.out.pure hpS)
      clear hpS hS
      have i3 := I3.out
      go_wp2
      exact ⟨⟨j + 1, by omega, by first | rfl | trivial | go_num, HP⟩, by simp [intOf]; omega⟩
    · obtain rfl : j = n := by omega
      have q1 : ¬ ((j : Int) < j) := by omega
      go_wp2
      go_ret
      exact ⟨rfl, HP.out⟩

set_option maxHeartbeats 4000000 in
theorem sameT_eq (w : World) (v u : Value) (l : List (List UInt8)) (h : Rows txtC 1 w v l) (k : Rows txtC 1 w u l) (hlen : l.length ≤ 8796093022208) :
    Calls Try.prog 38 #[v, u] w fun e w' => e = .returned (.bool true) ∧ Pure w w' := by
  obtain ⟨ao, c, rfl, h2, h3, h4⟩ := h
  obtain ⟨bo, d, rfl, k2, k3, k4⟩ := k
  have H3 := Lib.hid h3; have K3 := Lib.hid k3; have H4 := Lib.hid h4; have K4 := Lib.hid k4
  clear h3 k3 h4 k4
  obtain ⟨n, hn⟩ : ∃ n, n = l.length := ⟨_, rfl⟩
  have hnn : ((n : Int) != (n : Int)) = false := by simp
  rw [← hn] at hlen h2 k2 ⊢
  have HN := Lib.hid hn
  clear hn
  go_enter Try.func38, Try.ntmps38
  go_wp2
  go_loopw [4, 5] (fun _ i wr => ∃ j : Nat, j ≤ n ∧ i = .int .i64 (j : Int) ∧ Hid (Pure w wr)) (fun _ i _ => n - (intOf i).toNat)
  case atStart => exact ⟨0, by omega, by first | rfl | trivial, Lib.hid (Turn.refl _ _)⟩
  case round =>
    obtain ⟨j, hj, rfl, HP⟩ := hrel
    by_cases hlt : j < n
    · have hjl : j < l.length := by have := HN.out; omega
      have q1 : (j : Int) < n := by omega
      have q0 : (0 : Int) ≤ j := by omega
      have i3 : IntKind.i64.wrap ((j : Int) + 1) = ((j + 1 : Nat) : Int) := by rw [IntWalk.i64_in _ (by omega)]; omega
      have I3 := Lib.hid i3; clear i3
      obtain ⟨x, hx⟩ : ∃ x, l[j]? = some x := ⟨l[j], List.getElem?_eq_getElem hjl⟩
      have hjk := hjl
      have hy := hx
      obtain ⟨b, o, rfl, hr⟩ := H3.out (fun e => by rw [e] at hjl; simp at hjl)
      obtain ⟨b2, o2, rfl, kr⟩ := K3.out (fun e => by rw [e] at hjk; simp at hjk)
      have C1 := Lib.hid (HP.out.range (rowOf_at l o j x hx hr H4.out) (fun e => e)); have C2 := Lib.hid (HP.out.range (rowOf_at l o2 j x hy kr K4.out) (fun e => e))
      have hne : (!(x == x)) = false := by simp
      clear hr kr hx hy
      go_wp2_with fail
      refine wp_region_G (S := fun w' => Pure wr w' ∧ Held [] w') (T := fun _ _ _ => True) (by kernel_rfl) ⟨(Turn.refl _ _).drew, held_nil _⟩ trivial ?_
      have HG := Grow.held wr []
      refine atN 0 ?_
      iterate 3
        refine anyG_y HG (v := ?_) rfl (by kernel_rfl) (fun _ _ _ h => h) (fun _ _ _ => Iff.rfl) (Or.inl ⟨by rfl, fun w hSw => ?_⟩) ?_
        rotate_left
        · skip
          first | (go_simp; done) | (go_simp; with_reducible rfl)
        simp only [Nat.reduceAdd, AP]
      iterate 1
        refine anyG_y HG (v := ?_) rfl (by kernel_rfl) (fun _ _ _ h => h) (fun _ _ _ => Iff.rfl) (Or.inl ⟨by rfl, fun w hSw => ?_⟩) ?_
        rotate_left
        · skip
          have ca := cell1 (hSw.1.range C1.out (fun e => e))
          first | (go_simp; done) | (go_simp; with_reducible rfl)
        simp only [Nat.reduceAdd, AP]
      iterate 3
        refine anyG_y HG (v := ?_) rfl (by kernel_rfl) (fun _ _ _ h => h) (fun _ _ _ => Iff.rfl) (Or.inl ⟨by rfl, fun w hSw => ?_⟩) ?_
        rotate_left
        · skip
          first | (go_simp; done) | (go_simp; with_reducible rfl)
        simp only [Nat.reduceAdd, AP]
      iterate 1
        refine anyG_y HG (v := ?_) rfl (by kernel_rfl) (fun _ _ _ h => h) (fun _ _ _ => Iff.rfl) (Or.inl ⟨by rfl, fun w hSw => ?_⟩) ?_
        rotate_left
        · skip
          have ca := cell1 (hSw.1.range C2.out (fun e => e))
          first | (go_simp; done) | (go_simp; with_reducible rfl)
        simp only [Nat.reduceAdd, AP]
      iterate 1
        refine anyG_y HG (v := ?_) rfl (by kernel_rfl) (fun _ _ _ h => h) (fun _ _ _ => Iff.rfl) (Or.inl ⟨by rfl, fun w hSw => ?_⟩) ?_
        rotate_left
        · skip
          first | (go_simp; done) | (go_simp; with_reducible rfl)
        simp only [Nat.reduceAdd, AP]
      refine anyG_done (by kernel_rfl) (fun w2 hS _ => ?_) _
      obtain ⟨hpS, hS⟩ := hS
      clear HG
      have HP := Lib.hid (HP.out.pure hpS)
      clear hpS hS
      have i3 := I3.out
      go_wp2
      exact ⟨⟨j + 1, by omega, by first | rfl | trivial | go_num, HP⟩, by simp [intOf]; omega⟩
    · obtain rfl : j = n := by omega
      have q1 : ¬ ((j : Int) < j) := by omega
      go_wp2
      go_ret
      exact ⟨rfl, HP.out⟩

set_option maxHeartbeats 4000000 in
theorem sameEntry_eq (w : World) (A B : Ent) (ha : EntAt w A) (hb : EntAt w B) (hp : A.p = B.p) (hlen : A.p.tabs.length ≤ 4398046511104) :
    Calls Try.prog 58 #[.agg (entC A).toArray, .agg (entC B).toArray] w fun e w' => e = .returned (.bool true) ∧ Pure w w' := by
  have hrl := ha.root
  have HA := Lib.hid ha; have HB := Lib.hid hb
  have hSI := fun W (t : Pure w W) => sameI_eq W A.vecV B.vecV A.p.vec (ha.vec.pure t) (by rw [hp]; exact hb.vec.pure t)
  have hSH := fun W (t : Pure w W) => sameH_eq W A.tabV B.tabV A.p.tabs (ha.tab.pure t) (by rw [hp]; exact hb.tab.pure t) hlen
  have hca := fun W g hg => ent_at (e := A) hrl (W := W) (g := g) hg
  have hcb := fun W g hg => ent_at (e := B) hb.root (W := W) (g := g) hg
  rw [← hp] at hcb
  have hcl := entC_length ha.root
  have hdl := entC_length hb.root
  obtain ⟨C, hC⟩ : ∃ C, C = entC A := ⟨_, rfl⟩
  obtain ⟨D, hD⟩ : ∃ D, D = entC B := ⟨_, rfl⟩
  rw [← hC] at hca hcl ⊢
  rw [← hD] at hcb hdl ⊢
  have HSI := Lib.hid hSI; have HSH := Lib.hid hSH; have HCA := Lib.hid hca; have HCB := Lib.hid hcb
  clear hSI hSH hca hcb hC hD ha hb hp
  obtain ⟨⟨u, q, vec, rt, tabs, z⟩, av, at'⟩ := A
  simp only at *
  have e1 : (u == u) = true := by simp
  have e2 : (q == q) = true := by simp
  have e3 : (z == z) = true := by simp
  go_enter Try.func58, Try.ntmps58
  go_wp2_with (refine wpList_boxV rfl 47 _ rfl C rfl ?_)
  intro g1 w1 m1 c1 t1 s1
  have D1 := Lib.hid c1; have PT := Lib.hid t1
  clear c1 t1 m1 s1
  go_wp2_with (refine wpList_boxV rfl 47 _ rfl D rfl ?_)
  intro g2 w2 m2 c2 t2 s2
  have D2 := Lib.hid c2; have D1 := Lib.hid (t2.obj D1.out (fun e => e)); have PT := Lib.hid (PT.out.pure t2)
  clear c2 t2 m2 s2
  obtain ⟨a0, a1, a2, a3, a4, ra⟩ := HCA.out _ _ D1.out
  obtain ⟨b0, b1, b2, b3, b4, rb⟩ := HCB.out _ _ D2.out
  clear ra rb
  go_wp2_with fail
  refine (HSI.out _ PT.out).mono ?_
  rintro e w3 ⟨rfl, t3⟩
  have D1 := Lib.hid (t3.obj D1.out (fun e => e)); have D2 := Lib.hid (t3.obj D2.out (fun e => e)); have PT := Lib.hid (PT.out.pure t3)
  clear t3 a0 a1 a2 a3 a4 b0 b1 b2 b3 b4
  obtain ⟨a0, a1, a2, a3, a4, ra⟩ := HCA.out _ _ D1.out
  obtain ⟨b0, b1, b2, b3, b4, rb⟩ := HCB.out _ _ D2.out
  have RA := Lib.hid ra; have RB := Lib.hid rb
  clear ra rb
  go_wp2_with (first | (refine wpList_load_mid_w (by rfl) 45 _ rfl g1 3 rfl (u8s rt) _ RA.out Try.underlying45 rfl (info28_l hrl) ?_) | (refine wpList_load_mid_w (by rfl) 45 _ rfl g2 3 rfl (u8s rt) _ RB.out Try.underlying45 rfl (info28_l hrl) ?_) | (refine wpList_same28 (by rfl) _ _ rfl rt hrl rfl rfl ?_))
  refine (HSH.out _ PT.out).mono ?_
  rintro e w4 ⟨rfl, t4⟩
  have D1 := Lib.hid (t4.obj D1.out (fun e => e)); have D2 := Lib.hid (t4.obj D2.out (fun e => e)); have PT := Lib.hid (PT.out.pure t4)
  clear t4 a0 a1 a2 a3 a4 b0 b1 b2 b3 b4
  obtain ⟨a0, a1, a2, a3, a4, ra⟩ := HCA.out _ _ D1.out
  obtain ⟨b0, b1, b2, b3, b4, rb⟩ := HCB.out _ _ D2.out
  clear ra rb
  go_wp2
  go_ret
  exact ⟨rfl, PT.out⟩

set_option maxHeartbeats 4000000 in
theorem sameEnts_eq (w : World) (v u : Value) (l k' : List Ent) (h : EntsAt w v l) (k : EntsAt w u k') (hp : l.map (·.p) = k'.map (·.p)) (hlen : l.length ≤ 4398046511104) (htb : ∀ e ∈ l, e.p.tabs.length ≤ 4398046511104) :
    Calls Try.prog 36 #[v, u] w fun e w' => e = .returned (.bool true) ∧ Pure w w' := by
  obtain ⟨ao, c, rfl, h2, h3, h4⟩ := h.row
  have HEA := Lib.hid h.each; have HEB := Lib.hid k.each
  have hlk : k'.length = l.length := by have := congrArg List.length hp; simpa using this.symm
  have kk := k.row
  obtain ⟨bo, d, hu, k2, k3, k4⟩ := kk
  rw [hlk] at hu k2
  subst hu
  have HPP := Lib.hid hp
  clear h k hp
  have HTB := Lib.hid htb
  clear htb
  have H3 := Lib.hid h3; have K3 := Lib.hid k3; have H4 := Lib.hid h4; have K4 := Lib.hid k4
  clear h3 k3 h4 k4
  obtain ⟨n, hn⟩ : ∃ n, n = l.length := ⟨_, rfl⟩
  have hnn : ((n : Int) != (n : Int)) = false := by simp
  rw [← hn] at hlen h2 k2 ⊢
  have HN := Lib.hid hn
  clear hn
  go_enter Try.func36, Try.ntmps36
  go_wp2
  go_loopw [4, 5] (fun _ i wr => ∃ j : Nat, j ≤ n ∧ i = .int .i64 (j : Int) ∧ Hid (Pure w wr)) (fun _ i _ => n - (intOf i).toNat)
  case atStart => exact ⟨0, by omega, by first | rfl | trivial, Lib.hid (Turn.refl _ _)⟩
  case round =>
    obtain ⟨j, hj, rfl, HP⟩ := hrel
    by_cases hlt : j < n
    · have hjl : j < l.length := by have := HN.out; omega
      have q1 : (j : Int) < n := by omega
      have q0 : (0 : Int) ≤ j := by omega
      have i3 : IntKind.i64.wrap ((j : Int) + 1) = ((j + 1 : Nat) : Int) := by rw [IntWalk.i64_in _ (by omega)]; omega
      have I3 := Lib.hid i3; clear i3
      have hjk : j < k'.length := by rw [hlk, ← HN.out]; omega
      obtain ⟨x, hx⟩ : ∃ x, l[j]? = some x := ⟨l[j], List.getElem?_eq_getElem hjl⟩
      obtain ⟨y, hy⟩ : ∃ y, k'[j]? = some y := ⟨k'[j], List.getElem?_eq_getElem hjk⟩
      have hxy : x.p = y.p := by
        have e1 : (l.map (·.p))[j]? = some x.p := by rw [List.getElem?_map, hx]; rfl
        rw [HPP.out, List.getElem?_map, hy] at e1
        exact (Option.some.inj e1).symm
      obtain ⟨b, o, rfl, hr⟩ := H3.out (fun e => by rw [e] at hjl; simp at hjl)
      obtain ⟨b2, o2, rfl, kr⟩ := K3.out (fun e => by rw [e] at hjk; simp at hjk)
      have C1 := Lib.hid (HP.out.range (rowOf_at l o j x hx hr H4.out) (fun e => e)); have C2 := Lib.hid (HP.out.range (rowOf_at k' o2 j y hy kr K4.out) (fun e => e))
      have hxm := List.mem_of_getElem? hx
      have hym := List.mem_of_getElem? hy
      have HSE := Lib.hid (fun W (t : Pure w W) => sameEntry_eq W x y ((HEA.out x hxm).1.pure t) ((HEB.out y hym).1.pure t) hxy (HTB.out x hxm))
      have hcl := entC_length (HEA.out x hxm).1.root
      have hdl := entC_length (HEB.out y hym).1.root
      have hci : (Try.prog.info? 47).map (·.size) = some (entC x).length := by rw [infoE, hcl]
      have hdi : (Try.prog.info? 47).map (·.size) = some (entC y).length := by rw [infoE, hdl]
      generalize entC x = CX at *
      generalize entC y = CY at *
      clear hr kr hx hy hxm hym hxy
      go_wp2_with fail
      refine wp_region_G (S := fun w' => Pure wr w' ∧ Held [] w') (T := fun _ _ _ => True) (by kernel_rfl) ⟨(Turn.refl _ _).drew, held_nil _⟩ trivial ?_
      have HG := Grow.held wr []
      refine atN 0 ?_
      iterate 3
        refine anyG_y HG (v := ?_) rfl (by kernel_rfl) (fun _ _ _ h => h) (fun _ _ _ => Iff.rfl) (Or.inl ⟨by rfl, fun w hSw => ?_⟩) ?_
        rotate_left
        · skip
          first | (go_simp; done) | (go_simp; with_reducible rfl)
        simp only [Nat.reduceAdd, AP]
      refine anyG_y HG (v := Value.agg CX.toArray) rfl (by kernel_rfl) (fun _ _ _ h => h) (fun _ _ _ => Iff.rfl) (yieldsIf_load_mid (by rfl) 47 _ rfl b (o + j * 37) rfl (CX) _ (fun w hSw => hSw.1.range C1.out (fun e => e)) Try.underlying47 rfl hci) ?_
      simp only [Nat.reduceAdd, AP]
      iterate 3
        refine anyG_y HG (v := ?_) rfl (by kernel_rfl) (fun _ _ _ h => h) (fun _ _ _ => Iff.rfl) (Or.inl ⟨by rfl, fun w hSw => ?_⟩) ?_
        rotate_left
        · skip
          first | (go_simp; done) | (go_simp; with_reducible rfl)
        simp only [Nat.reduceAdd, AP]
      refine anyG_y HG (v := Value.agg CY.toArray) rfl (by kernel_rfl) (fun _ _ _ h => h) (fun _ _ _ => Iff.rfl) (yieldsIf_load_mid (by rfl) 47 _ rfl b2 (o2 + j * 37) rfl (CY) _ (fun w hSw => hSw.1.range C2.out (fun e => e)) Try.underlying47 rfl hdi) ?_
      simp only [Nat.reduceAdd, AP]
      refine anyG_c HG (fun w hSw => HSE.out w (HP.out.pure hSw.1)) rfl (by kernel_rfl) (fun _ _ _ h => h) (fun _ _ _ => Iff.rfl) (by rfl) (fun w hSw => by go_simp; first | done | with_reducible rfl) ?_
      simp only [Nat.reduceAdd, AP]
      iterate 1
        refine anyG_y HG (v := ?_) rfl (by kernel_rfl) (fun _ _ _ h => h) (fun _ _ _ => Iff.rfl) (Or.inl ⟨by rfl, fun w hSw => ?_⟩) ?_
        rotate_left
        · skip
          first | (go_simp; done) | (go_simp; with_reducible rfl)
        simp only [Nat.reduceAdd, AP]
      refine anyG_done (by kernel_rfl) (fun w2 hS _ => ?_) _
      obtain ⟨hpS, hS⟩ := hS
      clear HG
      have HP := Lib.hid (HP.out.pure hpS)
      clear hpS hS
      have i3 := I3.out
      go_wp2
      exact ⟨⟨j + 1, by omega, by first | rfl | trivial | go_num, HP⟩, by simp [intOf]; omega⟩
    · obtain rfl : j = n := by omega
      have q1 : ¬ ((j : Int) < j) := by omega
      go_wp2
      go_ret
      exact ⟨rfl, HP.out⟩

set_option maxHeartbeats 4000000 in
theorem sameMsg_eq (w : World) (A B : Msg) (ha : MsgAt w A) (hb : MsgAt w B) (hp : A.p = B.p) (htb : ∀ e ∈ A.es, e.p.tabs.length ≤ 4398046511104) :
    Calls Try.prog 12 #[.agg (msgC A).toArray, .agg (msgC B).toArray] w fun e w' => e = .returned (.bool true) ∧ Pure w w' := by
  have hSE := fun W (t : Pure w W) => sameEnts_eq W A.entV B.entV A.es B.es (ha.ents.pure t) (hb.ents.pure t) (by rw [ha.same, hb.same, hp]) ha.ents.len htb
  have hSH := fun W (t : Pure w W) => sameH_eq W A.wantV B.wantV A.p.wants (ha.wants.pure t) (by rw [hp]; exact hb.wants.pure t) ha.wlen
  have hST := fun W (t : Pure w W) => sameT_eq W A.objV B.objV A.p.objs (ha.objs.pure t) (by rw [hp]; exact hb.objs.pure t) ha.olen
  have hca := fun W g hg => msg_at (m := A) (W := W) (g := g) hg
  have hcb := fun W g hg => msg_at (m := B) (W := W) (g := g) hg
  rw [← hp] at hcb
  obtain ⟨C, hC⟩ : ∃ C, C = msgC A := ⟨_, rfl⟩
  obtain ⟨D, hD⟩ : ∃ D, D = msgC B := ⟨_, rfl⟩
  rw [← hC] at hca ⊢
  rw [← hD] at hcb ⊢
  have HSE := Lib.hid hSE; have HSH := Lib.hid hSH; have HST := Lib.hid hST; have HCA := Lib.hid hca; have HCB := Lib.hid hcb
  clear hSE hSH hST hca hcb hC hD ha hb hp htb
  obtain ⟨⟨kd, us, sr, ents, wants, objs⟩, es, ev, wv, ov⟩ := A
  simp only at *
  have e1 : (kd == kd) = true := by simp
  have e2 : (us == us) = true := by simp
  have e3 : (sr == sr) = true := by simp
  go_enter Try.func12, Try.ntmps12
  go_wp2_with (refine wpList_boxV rfl 26 _ rfl C rfl ?_)
  intro g1 w1 m1 c1 t1 s1
  have D1 := Lib.hid c1; have PT := Lib.hid t1
  clear c1 t1 m1 s1
  go_wp2_with (refine wpList_boxV rfl 26 _ rfl D rfl ?_)
  intro g2 w2 m2 c2 t2 s2
  have D2 := Lib.hid c2; have D1 := Lib.hid (t2.obj D1.out (fun e => e)); have PT := Lib.hid (PT.out.pure t2)
  clear c2 t2 m2 s2
  obtain ⟨a0, a1, a2, a3, a4, a5⟩ := HCA.out _ _ D1.out
  obtain ⟨b0, b1, b2, b3, b4, b5⟩ := HCB.out _ _ D2.out
  go_wp2_with fail
  refine (HSE.out _ PT.out).mono ?_
  rintro e w3 ⟨rfl, t3⟩
  have D1 := Lib.hid (t3.obj D1.out (fun e => e)); have D2 := Lib.hid (t3.obj D2.out (fun e => e)); have PT := Lib.hid (PT.out.pure t3)
  clear t3 a0 a1 a2 a3 a4 a5 b0 b1 b2 b3 b4 b5
  obtain ⟨a0, a1, a2, a3, a4, a5⟩ := HCA.out _ _ D1.out
  obtain ⟨b0, b1, b2, b3, b4, b5⟩ := HCB.out _ _ D2.out
  go_wp2_with fail
  refine (HSH.out _ PT.out).mono ?_
  rintro e w4 ⟨rfl, t4⟩
  have D1 := Lib.hid (t4.obj D1.out (fun e => e)); have D2 := Lib.hid (t4.obj D2.out (fun e => e)); have PT := Lib.hid (PT.out.pure t4)
  clear t4 a0 a1 a2 a3 a4 a5 b0 b1 b2 b3 b4 b5
  obtain ⟨a0, a1, a2, a3, a4, a5⟩ := HCA.out _ _ D1.out
  obtain ⟨b0, b1, b2, b3, b4, b5⟩ := HCB.out _ _ D2.out
  go_wp2_with fail
  refine (HST.out _ PT.out).mono ?_
  rintro e w5 ⟨rfl, t5⟩
  have D1 := Lib.hid (t5.obj D1.out (fun e => e)); have D2 := Lib.hid (t5.obj D2.out (fun e => e)); have PT := Lib.hid (PT.out.pure t5)
  clear t5 a0 a1 a2 a3 a4 a5 b0 b1 b2 b3 b4 b5
  obtain ⟨a0, a1, a2, a3, a4, a5⟩ := HCA.out _ _ D1.out
  obtain ⟨b0, b1, b2, b3, b4, b5⟩ := HCB.out _ _ D2.out
  go_wp2
  go_ret
  exact ⟨rfl, PT.out⟩
end Go.Proofs.Ytigkmdjdnkbdkaa
