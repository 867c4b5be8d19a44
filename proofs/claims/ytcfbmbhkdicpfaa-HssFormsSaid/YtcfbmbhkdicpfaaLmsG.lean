/- Chapter 5: signatures asked. Chapter 5, the reference: signatures asked. Chapter 5: what was signed is taken: the plain law; lengths. -/
import Derived.Test.YtcfbmbhkdicpfaaLmsE
import Derived.Test.YtcfbmbhkdicpfaaLms8
namespace Go.Proofs.Ytcfbmbhkdicpfaa
open Go.RowKit

/-- Up a path, so many steps. -/
def climbV (id path : List UInt8) (r : Nat) (x : List UInt8) : Nat → List UInt8
  | 0 => x
  | i + 1 => if (r / 2 ^ i) % 2 = 0 then nodV id (r / 2 ^ (i + 1)) (climbV id path r x i) ((path.drop (32 * i)).take 32) else nodV id (r / 2 ^ (i + 1)) ((path.drop (32 * i)).take 32) (climbV id path r x i)
theorem climbV_length {id path : List UInt8} {r : Nat} {x : List UInt8} (hx : x.length = 32) : ∀ i, (climbV id path r x i).length = 32
  | 0 => hx
  | i + 1 => by
    rw [climbV]
    split <;> exact shaV_length _
def verifyV (pub msg sign : List UInt8) : Int :=
  if (apartV pub).2 = true then
    if (partsV (apartV pub).1 sign).2 = true ∧ msg.length ≤ 65536 then
      if climbV (apartV pub).1.id (partsV (apartV pub).1 sign).1.path (2 ^ (apartV pub).1.height + (partsV (apartV pub).1 sign).1.q)
        (tipV (apartV pub).1.id (2 ^ (apartV pub).1.height + (partsV (apartV pub).1 sign).1.q) (candV (apartV pub).1.id (partsV (apartV pub).1 sign).1.q msg (partsV (apartV pub).1 sign).1.sign).1) (apartV pub).1.height = (apartV pub).1.root then 0 else 502
    else 500
  else 500
theorem apart_parts {s : List UInt8} (h : (apartV s).2 = true) : s.length = 56 ∧ 1 ≤ (apartV s).1.height ∧ (apartV s).1.height ≤ 5 ∧ (apartV s).1.id.length = 16 ∧ (apartV s).1.root.length = 32 ∧ ((apartV s).1.ots = 3 ∨ (apartV s).1.ots = 4) := by
  unfold apartV at h ⊢
  by_cases h56 : s.length = 56
  · rw [if_pos h56] at h ⊢
    simp only [Bool.and_eq_true, decide_eq_true_eq] at h
    have h5 := hgtV_le (n4 s)
    refine ⟨h56, by simp only; omega, h5, by simp; omega, by simp; omega, kindB_parts h.2⟩
  · rw [if_neg h56] at h; simp at h
theorem parts_parts {k : PKey} {s : List UInt8} (h : (partsV k s).2 = true) : s.length = pkSize k ∧ (partsV k s).1.q < 2 ^ k.height ∧ (partsV k s).1.path.length = 32 * k.height ∧ (partsV k s).1.sign.length = otsSize k.ots ∧ otsSize k.ots ≤ 2180 := by
  have hp := parV_le k.ots
  unfold partsV at h ⊢
  by_cases hl : s.length = pkSize k
  · rw [if_pos hl] at h ⊢
    simp only [Bool.and_eq_true, decide_eq_true_eq] at h
    have e : pkSize k = 8 + otsSize k.ots + 32 * k.height := rfl
    refine ⟨hl, h.2, by simp; omega, by simp; omega, by rw [otsSize]; omega⟩
  · rw [if_neg hl] at h; simp at h

set_option maxRecDepth 100000 in
set_option maxHeartbeats 4000000 in
theorem LVerify_any (w : World) (pub msg sign : List UInt8) (hp : pub.length ≤ 140737488351232) (hs : sign.length ≤ 140737488351232) : Calls Try.prog 22 #[.string (bstr pub), .string (bstr msg), .string (bstr sign)] w fun e w' =>
    e = .returned (.int .i64 (verifyV pub msg sign)) ∧ Pure w w' := by
  obtain ⟨X, hXl, HZ⟩ := ex28
  have zm0 := bstr_size msg
  have hap := fun W => Apart_any W pub (by omega)
  have hap2 : (apartV pub).2 = true → _ := fun h => apart_parts h
  have hpt : 1 ≤ (apartV pub).1.height → (apartV pub).1.height ≤ 5 → _ := fun h1 h5 W => apart_any W (apartV pub).1 sign hs h1 h5
  have hpt2 : (partsV (apartV pub).1 sign).2 = true → _ := fun h => parts_parts h
  obtain ⟨V, hv⟩ : ∃ V, V = verifyV pub msg sign := ⟨_, rfl⟩
  rw [← hv]
  rw [verifyV] at hv
  generalize (apartV pub).2 = B1 at *
  generalize (apartV pub).1 = K at *
  generalize partsV K sign = PS at *
  obtain ⟨ps, B2⟩ := PS
  simp only at hpt hpt2 hv
  have HC := Lib.hid (fun W g => @pk_cells K W g)
  have HC2 := Lib.hid (fun W g => @pt_cells ps W g)
  have hCl : (pkC K).length = 4 := rfl
  have hDl : (ptC ps).length = 3 := rfl
  obtain ⟨C, hC⟩ : ∃ C, C = pkC K := ⟨_, rfl⟩
  obtain ⟨D, hD⟩ : ∃ D, D = ptC ps := ⟨_, rfl⟩
  have hC1 := pkC_one K
  have hD1 := ptC_one ps
  rw [← hC] at HC hap hCl hC1 hpt
  rw [← hD] at HC2 hDl hD1 hpt
  have HCI : Hid ((Try.prog.info? 88).map (·.size) = some C.length) := Lib.hid (by rw [hCl]; exact infoPK)
  have HDI : Hid ((Try.prog.info? 92).map (·.size) = some D.length) := Lib.hid (by rw [hDl]; exact infoPT)
  have HCZ : Hid ((pkC PKey0).toArray.size = C.length) := Lib.hid (by rw [hCl]; rfl)
  have HDZ : Hid ((ptC Parts0).toArray.size = D.length) := Lib.hid (by rw [hDl]; rfl)
  have HC1 := Lib.hid hC1; have HD1 := Lib.hid hD1
  clear hC hD hCl hDl hC1 hD1
  obtain ⟨n, hn⟩ : ∃ n, n = msg.length := ⟨_, rfl⟩
  rw [← hn] at zm0 hv
  clear hn
  have HAP := Lib.hid hap
  clear hap
  cases B1 with
  | false =>
    rw [if_neg (by decide)] at hv
    rw [hv]
    clear hv hap2 hpt hpt2
    go_enter Try.func22, Try.ntmps22
    go_wp2_with fail
    refine (HAP.out _).mono ?_
    rintro e w1 ⟨rfl, t1⟩
    have PT := Lib.hid t1
    clear t1
    go_wp2_with (refine wpList_allocZ rfl 88 rfl _ zeroPK ?_)
    intro g7 w2 e2 c2 t2 s2
    have l7 : w.heap.size ≤ g7 := by have := PT.out.size; omega
    clear e2 s2
    go_wp2_with (refine wpList_store_blk rfl 88 _ _ rfl g7 _ C _ rfl rfl c2 HCZ.out HCI.out HC1.out ?_)
    intro w3 d3 t3 s3
    clear s3
    have D7 := Lib.hid d3; have PT := Lib.hid (((PT.out.pure t2).newer t3 l7))
    clear c2 t2 d3 t3
    go_wp2
    go_ret
    exact ⟨rfl, PT.out⟩
  | true =>
    rw [if_pos rfl] at hv
    obtain ⟨_, h1, h5, hid, hroot, _⟩ := hap2 rfl
    have HPT := Lib.hid (hpt h1 h5)
    clear hap2 hpt
    cases B2 with
    | false =>
      rw [if_neg (fun h => by cases h.1)] at hv
      rw [hv]
      clear hv hpt2
      go_enter Try.func22, Try.ntmps22
      go_wp2_with fail
      refine (HAP.out _).mono ?_
      rintro e w1 ⟨rfl, t1⟩
      have PT := Lib.hid t1
      clear t1
      go_wp2_with (refine wpList_allocZ rfl 88 rfl _ zeroPK ?_)
      intro g7 w2 e2 c2 t2 s2
      have l7 : w.heap.size ≤ g7 := by have := PT.out.size; omega
      clear e2 s2
      go_wp2_with (refine wpList_store_blk rfl 88 _ _ rfl g7 _ C _ rfl rfl c2 HCZ.out HCI.out HC1.out ?_)
      intro w3 d3 t3 s3
      clear s3
      have D7 := Lib.hid d3; have PT := Lib.hid (((PT.out.pure t2).newer t3 l7))
      clear c2 t2 d3 t3
      have R7 := range_of_row D7.out
      go_wp2_with (refine wpList_load_mid rfl 88 _ rfl g7 0 rfl C _ R7 Try.underlying88 rfl HCI.out ?_)
      clear R7
      refine (HPT.out _).mono ?_
      rintro e w4 ⟨rfl, t4⟩
      have D7 := Lib.hid (t4.obj D7.out (fun e => e)); have PT := Lib.hid (PT.out.pure t4)
      clear t4
      go_wp2_with (refine wpList_allocZ rfl 92 rfl _ zeroPT ?_)
      intro g9 w5 e5 c5 t5 s5
      have l9 : w.heap.size ≤ g9 := by have := PT.out.size; omega
      have n79 : g7 ≠ g9 := by have := (Array.getElem?_eq_some_iff.1 D7.out).1; omega
      clear e5 s5
      go_wp2_with (refine wpList_store_blk rfl 92 _ _ rfl g9 _ D _ rfl rfl c5 HDZ.out HDI.out HD1.out ?_)
      intro w6 d6 t6 s6
      clear s6
      have D9 := Lib.hid d6; have D7 := Lib.hid (t6.obj (t5.obj D7.out (fun e => e)) n79); have PT := Lib.hid ((PT.out.pure t5).newer t6 l9)
      clear c5 t5 d6 t6
      go_wp2
      go_ret
      exact ⟨rfl, PT.out⟩
    | true =>
      by_cases hm : n ≤ 65536
      case neg =>
        rw [if_neg (fun h => hm h.2)] at hv
        rw [hv]
        have d0 : decide ((65536 : Int) < n) = true := decide_eq_true (by omega)
        have d0n : decide (65536 < n) = true := decide_eq_true (by omega)
        clear hv hpt2 hm
        go_enter Try.func22, Try.ntmps22
        go_wp2_with fail
        refine (HAP.out _).mono ?_
        rintro e w1 ⟨rfl, t1⟩
        have PT := Lib.hid t1
        clear t1
        go_wp2_with (refine wpList_allocZ rfl 88 rfl _ zeroPK ?_)
        intro g7 w2 e2 c2 t2 s2
        have l7 : w.heap.size ≤ g7 := by have := PT.out.size; omega
        clear e2 s2
        go_wp2_with (refine wpList_store_blk rfl 88 _ _ rfl g7 _ C _ rfl rfl c2 HCZ.out HCI.out HC1.out ?_)
        intro w3 d3 t3 s3
        clear s3
        have D7 := Lib.hid d3; have PT := Lib.hid (((PT.out.pure t2).newer t3 l7))
        clear c2 t2 d3 t3
        have R7 := range_of_row D7.out
        go_wp2_with (refine wpList_load_mid rfl 88 _ rfl g7 0 rfl C _ R7 Try.underlying88 rfl HCI.out ?_)
        clear R7
        refine (HPT.out _).mono ?_
        rintro e w4 ⟨rfl, t4⟩
        have D7 := Lib.hid (t4.obj D7.out (fun e => e)); have PT := Lib.hid (PT.out.pure t4)
        clear t4
        go_wp2_with (refine wpList_allocZ rfl 92 rfl _ zeroPT ?_)
        intro g9 w5 e5 c5 t5 s5
        have l9 : w.heap.size ≤ g9 := by have := PT.out.size; omega
        have n79 : g7 ≠ g9 := by have := (Array.getElem?_eq_some_iff.1 D7.out).1; omega
        clear e5 s5
        go_wp2_with (refine wpList_store_blk rfl 92 _ _ rfl g9 _ D _ rfl rfl c5 HDZ.out HDI.out HD1.out ?_)
        intro w6 d6 t6 s6
        clear s6
        have D9 := Lib.hid d6; have D7 := Lib.hid (t6.obj (t5.obj D7.out (fun e => e)) n79); have PT := Lib.hid ((PT.out.pure t5).newer t6 l9)
        clear c5 t5 d6 t6
        go_wp2
        go_ret
        exact ⟨rfl, PT.out⟩
      case pos =>
        rw [if_pos ⟨rfl, hm⟩] at hv
        have d0 : decide ((65536 : Int) < n) = false := decide_eq_false (by omega)
        have d0n : decide (65536 < n) = false := decide_eq_false (by omega)
        obtain ⟨_, hq, hpl, hsl, hsz⟩ := hpt2 rfl
        have hcd := fun W => Candidate_all W K.id ps.q msg ps.sign (by omega) (by omega)
        have hcl := candV_length K.id ps.q msg ps.sign
        have hh5 : K.height = 1 ∨ K.height = 2 ∨ K.height = 3 ∨ K.height = 4 ∨ K.height = 5 := by omega
        have hsh1 := may_sh1 K.height hh5
        have hsh2 := may_sh2 K.height hh5
        have hsh3 := may_sh3 K.height hh5
        have hp0 : ((2 ^ K.height : Nat) : Int) = (2 : Int) ^ K.height := by rw [Int.natCast_pow]; rfl
        have hm32 : 2 ^ K.height ≤ 32 := by rcases hh5 with e | e | e | e | e <;> rw [e] <;> decide
        have hway := wayUp_of h1 h5 hq
        obtain ⟨m, hmm⟩ : ∃ m, m = 2 ^ K.height := ⟨_, rfl⟩
        rw [← hmm] at hp0 hm32 hv hq hway
        have HSH : Hid (wrap64 ((2 : Int) ^ K.height) = (m : Int) ∧ IntKind.i64.wrap ((2 : Int) ^ K.height) = (m : Int) ∧ IntKind.i64.wrap ((2 : Int) ^ min K.height 64) = (m : Int)) := Lib.hid ⟨by rw [hp0]; exact hsh1, by rw [hp0]; exact hsh2, by rw [hp0]; exact hsh3⟩
        clear hsh1 hsh2 hsh3 hh5 hp0 hmm
        obtain ⟨r, hr⟩ : ∃ r, r = m + ps.q := ⟨_, rfl⟩
        rw [← hr] at hv hway
        have hr64 : r < 64 := by omega
        have HRI : Hid (IntKind.i64.wrap ((m : Int) + (ps.q : Int)) = (r : Int)) := Lib.hid (by rw [IntWalk.i64_in _ (by omega)]; omega)
        generalize (candV K.id ps.q msg ps.sign).1 = cd at *
        generalize (candV K.id ps.q msg ps.sign).2 = ce at *
        have htp := fun W => tip_any W K.id r cd (by omega) (by omega) hcl
        have htl : (tipV K.id r cd).length = 32 := shaV_length _
        generalize tipV K.id r cd = tp at *
        have hjn := fun W (s : Nat) (a b : List UInt8) (hs : s < 64) (ha : a.length = 32) (hb : b.length = 32) => join_any W K.id s a b (by omega) (by omega) ha hb
        obtain ⟨height, ots, id, root⟩ := K
        obtain ⟨q, sg, path⟩ := ps
        simp only at HC HC2 hcd hpl htp hjn HSH HRI hv hid hroot h1 h5 hway hr hq
        have hcl0 := fun i => climbV_length (id := id) (path := path) (r := r) htl i
        have hcs : ∀ i, climbV id path r tp (i + 1) = if (r / 2 ^ i) % 2 = 0 then nodV id (r / 2 ^ (i + 1)) (climbV id path r tp i) ((path.drop (32 * i)).take 32) else nodV id (r / 2 ^ (i + 1)) ((path.drop (32 * i)).take 32) (climbV id path r tp i) := fun i => rfl
        have hcz : climbV id path r tp 0 = tp := rfl
        generalize climbV id path r tp = CL at *
        have HCD := Lib.hid hcd; have HTP := Lib.hid htp; have HJN := Lib.hid hjn; have HWAY := Lib.hid hway; have HCL0 := Lib.hid hcl0; have HCS := Lib.hid hcs; have HCZ0 := Lib.hid hcz; have HV := Lib.hid hv; have HPL := Lib.hid hpl
        clear hcd htp hjn hway hcl0 hcs hcz hv hpl hpt2 hm hsl hsz hr
        go_enter Try.func22, Try.ntmps22
        go_wp2_with fail
        refine (HAP.out _).mono ?_
        rintro e w1 ⟨rfl, t1⟩
        have PT := Lib.hid t1
        clear t1
        go_wp2_with (refine wpList_allocZ rfl 88 rfl _ zeroPK ?_)
        intro g7 w2 e2 c2 t2 s2
        have l7 : w.heap.size ≤ g7 := by have := PT.out.size; omega
        clear e2 s2
        go_wp2_with (refine wpList_store_blk rfl 88 _ _ rfl g7 _ C _ rfl rfl c2 HCZ.out HCI.out HC1.out ?_)
        intro w3 d3 t3 s3
        clear s3
        have D7 := Lib.hid d3; have PT := Lib.hid (((PT.out.pure t2).newer t3 l7))
        clear c2 t2 d3 t3
        have R7 := range_of_row D7.out
        go_wp2_with (refine wpList_load_mid rfl 88 _ rfl g7 0 rfl C _ R7 Try.underlying88 rfl HCI.out ?_)
        clear R7
        refine (HPT.out _).mono ?_
        rintro e w4 ⟨rfl, t4⟩
        have D7 := Lib.hid (t4.obj D7.out (fun e => e)); have PT := Lib.hid (PT.out.pure t4)
        clear t4
        go_wp2_with (refine wpList_allocZ rfl 92 rfl _ zeroPT ?_)
        intro g9 w5 e5 c5 t5 s5
        have l9 : w.heap.size ≤ g9 := by have := PT.out.size; omega
        have n79 : g7 ≠ g9 := by have := (Array.getElem?_eq_some_iff.1 D7.out).1; omega
        clear e5 s5
        go_wp2_with (refine wpList_store_blk rfl 92 _ _ rfl g9 _ D _ rfl rfl c5 HDZ.out HDI.out HD1.out ?_)
        intro w6 d6 t6 s6
        clear s6
        have D9 := Lib.hid d6; have D7 := Lib.hid (t6.obj (t5.obj D7.out (fun e => e)) n79); have PT := Lib.hid ((PT.out.pure t5).newer t6 l9)
        clear c5 t5 d6 t6
        obtain ⟨k0, k1, k2, k3⟩ := HC.out _ _ D7.out
        obtain ⟨p0, p1, p2⟩ := HC2.out _ _ D9.out
        go_wp2_with fail
        refine (HCD.out _).mono ?_
        rintro e w7 ⟨rfl, t7⟩
        have D7 := Lib.hid (t7.obj D7.out (fun e => e)); have D9 := Lib.hid (t7.obj D9.out (fun e => e)); have PT := Lib.hid (PT.out.pure t7)
        clear t7 k0 k1 k2 k3 p0 p1 p2
        go_wp2_with (refine wpList_allocZ rfl 62 rfl X HZ.out ?_)
        intro g10 w8 e8 c8 t8 s8
        have l10 : w.heap.size ≤ g10 := by have := PT.out.size; omega
        have n710 : g7 ≠ g10 := by have := (Array.getElem?_eq_some_iff.1 D7.out).1; omega
        have n910 : g9 ≠ g10 := by have := (Array.getElem?_eq_some_iff.1 D9.out).1; omega
        clear e8 s8
        go_wp2_with (refine wpList_store_blk rfl 62 _ _ rfl g10 _ (u8s cd) _ rfl rfl c8 (size28 hXl hcl) (info28_l hcl) (u8s_one _) ?_)
        intro w9 d9 t9 s9
        clear s9
        have D10 := Lib.hid d9; have D7 := Lib.hid (t9.obj (t8.obj D7.out (fun e => e)) n710); have D9 := Lib.hid (t9.obj (t8.obj D9.out (fun e => e)) n910); have PT := Lib.hid ((PT.out.pure t8).newer t9 l10)
        clear c8 t8 d9 t9 n710 n910
        go_wp2_with fail
        refine wp_region_G (S := fun w' => Pure w9 w' ∧ Held [(g7, Obj.cells C.toArray 88 (0, 0)), (g9, Obj.cells D.toArray 92 (0, 0)), (g10, Obj.cells (u8s cd).toArray 62 (0, 0))] w') (T := fun _ _ _ => True) (by kernel_rfl) ⟨(Turn.refl _ _).drew, held_cons (show w9.drew.heap[_]? = _ from D7.out) (held_cons (show w9.drew.heap[_]? = _ from D9.out) (held_cons (show w9.drew.heap[_]? = _ from D10.out) (held_nil _)))⟩ trivial ?_
        have HG := Grow.held w9 [(g7, Obj.cells C.toArray 88 (0, 0)), (g9, Obj.cells D.toArray 92 (0, 0)), (g10, Obj.cells (u8s cd).toArray 62 (0, 0))]
        refine atN 0 ?_
        refine anyG_y HG (v := ?_) rfl (by kernel_rfl) (fun _ _ _ h => h) (fun _ _ _ => Iff.rfl) (Or.inl ⟨by rfl, fun w hSw => ?_⟩) ?_
        rotate_left
        · skip
          first | (go_simp; done) | (go_simp; with_reducible rfl)
        simp only [Nat.reduceAdd, AP]
        refine atN 1 ?_
        refine anyG_y HG (v := ?_) rfl (by kernel_rfl) (fun _ _ _ h => h) (fun _ _ _ => Iff.rfl) (Or.inl ⟨by rfl, fun w hSw => ?_⟩) ?_
        rotate_left
        · obtain ⟨k0, k1, k2, k3⟩ := HC.out _ _ hSw.2.head
          first | (go_simp; done) | (go_simp; with_reducible rfl)
        simp only [Nat.reduceAdd, AP]
        refine atN 2 ?_
        refine anyG_y HG (v := ?_) rfl (by kernel_rfl) (fun _ _ _ h => h) (fun _ _ _ => Iff.rfl) (Or.inl ⟨by rfl, fun w hSw => ?_⟩) ?_
        rotate_left
        · obtain ⟨hsh1, hsh2, hsh3⟩ := HSH.out
          first | (go_simp; done) | (go_simp; with_reducible rfl)
        simp only [Nat.reduceAdd, AP]
        refine atN 3 ?_
        refine anyG_y HG (v := ?_) rfl (by kernel_rfl) (fun _ _ _ h => h) (fun _ _ _ => Iff.rfl) (Or.inl ⟨by rfl, fun w hSw => ?_⟩) ?_
        rotate_left
        · skip
          first | (go_simp; done) | (go_simp; with_reducible rfl)
        simp only [Nat.reduceAdd, AP]
        refine atN 4 ?_
        refine anyG_y HG (v := ?_) rfl (by kernel_rfl) (fun _ _ _ h => h) (fun _ _ _ => Iff.rfl) (Or.inl ⟨by rfl, fun w hSw => ?_⟩) ?_
        rotate_left
        · obtain ⟨p0, p1, p2⟩ := HC2.out _ _ hSw.2.tail.head
          first | (go_simp; done) | (go_simp; with_reducible rfl)
        simp only [Nat.reduceAdd, AP]
        refine atN 5 ?_
        refine anyG_y HG (v := ?_) rfl (by kernel_rfl) (fun _ _ _ h => h) (fun _ _ _ => Iff.rfl) (Or.inl ⟨by rfl, fun w hSw => ?_⟩) ?_
        rotate_left
        · have hri := HRI.out
          first | (go_simp; done) | (go_simp; with_reducible rfl)
        simp only [Nat.reduceAdd, AP]
        refine atN 6 ?_
        refine anyG_y HG (v := ?_) rfl (by kernel_rfl) (fun _ _ _ h => h) (fun _ _ _ => Iff.rfl) (Or.inl ⟨by rfl, fun w hSw => ?_⟩) ?_
        rotate_left
        · skip
          first | (go_simp; done) | (go_simp; with_reducible rfl)
        simp only [Nat.reduceAdd, AP]
        refine anyG_done (by kernel_rfl) (fun w10 hS _ => ?_) _
        obtain ⟨hpS, hS⟩ := hS
        clear HG
        have PT := Lib.hid (PT.out.pure hpS)
        have D7 := Lib.hid hS.head
        have D9 := Lib.hid hS.tail.head
        have D10 := Lib.hid hS.tail.tail.head
        clear hS hpS
        obtain ⟨k0, k1, k2, k3⟩ := HC.out _ _ D7.out
        have R10 := range_of_row D10.out
        go_wp2_with (refine wpList_load_mid rfl 62 _ rfl g10 0 rfl (u8s cd) _ R10 Try.underlying62 rfl (info28_l hcl) ?_)
        clear R10
        refine (HTP.out _).mono ?_
        rintro e w11 ⟨rfl, t11⟩
        have D7 := Lib.hid (t11.obj D7.out (fun e => e)); have D9 := Lib.hid (t11.obj D9.out (fun e => e)); have PT := Lib.hid (PT.out.pure t11)
        clear t11 k0 k1 k2 k3 D10
        go_wp2_with (refine wpList_allocZ rfl 62 rfl X HZ.out ?_)
        intro g13 w12 e12 c12 t12 s12
        have l13 : w.heap.size ≤ g13 := by have := PT.out.size; omega
        have n713 : g7 ≠ g13 := by have := (Array.getElem?_eq_some_iff.1 D7.out).1; omega
        have n913 : g9 ≠ g13 := by have := (Array.getElem?_eq_some_iff.1 D9.out).1; omega
        clear e12 s12
        go_wp2_with (refine wpList_store_blk rfl 62 _ _ rfl g13 _ (u8s tp) _ rfl rfl c12 (size28 hXl htl) (info28_l htl) (u8s_one _) ?_)
        intro w13 d13 t13 s13
        clear s13
        have D13 := Lib.hid d13; have D7 := Lib.hid (t13.obj (t12.obj D7.out (fun e => e)) n713); have D9 := Lib.hid (t13.obj (t12.obj D9.out (fun e => e)) n913); have PT := Lib.hid ((PT.out.pure t12).newer t13 l13)
        have N713 := Lib.hid n713
        clear c12 t12 d13 t13 n913 n713
        obtain ⟨p0, p1, p2⟩ := HC2.out _ _ D9.out
        go_wp2_with fail
        clear p0 p1 p2 D9
        go_loopw [12, 14] (fun rr pp wr => ∃ i : Nat, i ≤ height ∧ rr = .int .i64 ((r / 2 ^ i : Nat) : Int) ∧ pp = .string (bstr (path.drop (32 * i))) ∧ Hid (wr.heap[g13]? = some (.cells (u8s (CL i)).toArray 62 (0, 0))) ∧ Hid (wr.heap[g7]? = some (.cells C.toArray 88 (0, 0))) ∧ Hid (Pure w wr)) (fun rr _ _ => (intOf rr).toNat)
        case atStart => exact ⟨0, Nat.zero_le _, by rw [Nat.pow_zero, Nat.div_one], by rw [Nat.mul_zero, List.drop_zero], Lib.hid (by rw [HCZ0.out]; exact D13.out), D7, PT⟩
        case round =>
          obtain ⟨i, hi, rfl, rfl, D13, D7, PT⟩ := hrel
          by_cases hlt : i < height
          · obtain ⟨P, hP⟩ : ∃ P, P = path.drop (32 * i) := ⟨_, rfl⟩
            have hP1 : path.drop (32 * (i + 1)) = P.drop 32 := by rw [hP, List.drop_drop]; congr 1
            obtain ⟨LP, hLP⟩ : ∃ LP, LP = P.length := ⟨_, rfl⟩
            have hLP2 : 32 ≤ LP ∧ LP ≤ 160 := by rw [hLP, hP, List.length_drop, HPL.out]; omega
            obtain ⟨Q, hQ⟩ : ∃ Q, Q = P.take 32 := ⟨_, rfl⟩
            have hQl : Q.length = 32 := by rw [hQ, List.length_take]; omega
            have hcs := HCS.out i
            rw [← hP, ← hQ] at hcs
            obtain ⟨P2, hP2⟩ : ∃ P2, P2 = P.drop 32 := ⟨_, rfl⟩
            have ex1 : (bstr P).extract 0 32 = bstr Q := by rw [bstr_ext, hQ, List.drop_zero]
            have ex2 : (bstr P).extract 32 LP = bstr P2 := by rw [bstr_ext, hP2, hLP, List.take_length]
            have zP : (bstr P).size = LP := by rw [bstr_size, hLP]
            have zQ : (bstr Q).size = 32 := by rw [bstr_size, hQl]
            have e1 : P ≠ [] := fun h => by rw [h] at hLP; simp at hLP; omega
            have e2 : (P == []) = false := by simpa using e1
            have e3 : (P != []) = true := by simpa using e1
            have e4 : P.isEmpty = false := by simpa using e1
            have HNEXT : Hid (path.drop (32 * (i + 1)) = P2) := Lib.hid (by rw [hP2]; exact hP1)
            rw [← hP]
            obtain ⟨y1, y2⟩ := HWAY.out.low i hlt
            have hdv : r / 2 ^ i / 2 = r / 2 ^ (i + 1) := by rw [Nat.div_div_eq_div_mul, Nat.pow_succ]
            rw [← hdv] at hcs
            have HDV := Lib.hid hdv
            have hca := HCL0.out i
            have hcb := HCL0.out (i + 1)
            have y3 : r / 2 ^ i < 64 := Nat.lt_of_le_of_lt (Nat.div_le_self _ _) hr64
            generalize r / 2 ^ i = rj at *
            generalize CL i = ca at D13 hcs hca
            obtain ⟨cb, hcb0⟩ : ∃ cb, cb = CL (i + 1) := ⟨_, rfl⟩
            rw [← hcb0] at hcs hcb
            have HCB := Lib.hid hcb0
            clear hcb0
            have hj0 : (rj : Int) / 2 = ((rj / 2 : Nat) : Int) := by omega
            have HJ : Hid (∀ W a b, a.length = 32 → b.length = 32 → Calls Try.prog 52 #[.string (bstr id), .int .i64 ((rj : Int) / 2), hv a, hv b] W fun e w' => e = .returned (hv (nodV id (rj / 2) a b)) ∧ Pure W w') := Lib.hid fun W a b ha hb => by
              rw [hj0]; exact HJN.out W (rj / 2) a b (by omega) ha hb
            have HR2 : Hid ((rj : Int) / 2 = ((r / 2 ^ (i + 1) : Nat) : Int)) := Lib.hid (by rw [← HDV.out]; exact hj0)
            have y4 : (rj : Int) < 64 := by omega
            have g13lt := (Array.getElem?_eq_some_iff.1 D13.out).1
            have g7lt := (Array.getElem?_eq_some_iff.1 D7.out).1
            have HCSI := Lib.hid hcs
            clear hP hP1 hLP hQ hP2 hcs hdv hj0 y3
            have hcv := Lib.run_convert_string_bytes (P := Try.prog) wr 9 65 5 (bstr Q) Try.underlying9 Try.underlying65 Try.underlying5
            rw [zQ] at hcv
            generalize grownCap wr 32 0 5 = cap at hcv
            have hB : Pure wr (Lib.bytesWorld wr 5 (bstr Q)) := bytesWorld_turn (Turn.refl _ _) _ _
            have hC : (Lib.bytesWorld wr 5 (bstr Q)).rangeAt wr.heap.size 0 (u8s Q) := by
              intro j v hv
              obtain ⟨hj, rfl⟩ := List.getElem?_eq_some_iff.1 hv
              rw [u8s_length] at hj
              rw [Nat.zero_add, Lib.bytesWorld_cell wr _ _ j (by rw [bstr_size]; exact hj), bstr_data]
              simp [u8s, u8, List.getD, hj]
            have D13 := Lib.hid (hB.obj D13.out (fun e => e)); have D7 := Lib.hid (hB.obj D7.out (fun e => e)); have PT := Lib.hid (PT.out.pure hB)
            generalize Lib.bytesWorld wr 5 (bstr Q) = w14 at hcv hB hC D13 D7 PT
            have hap := arrayAt_ok (P := Try.prog) w14 62 5 32 cap ⟨wr.heap.size, 0, none⟩ Try.underlying62
            have HCC := Lib.hid hC
            clear hB hC
            go_wp2_with (first | (refine wpList_load_mid rfl 62 _ rfl wr.heap.size 0 rfl (u8s Q) _ HCC.out Try.underlying62 rfl (info28_l hQl) ?_) | (refine wpList_allocZ rfl 62 rfl X HZ.out ?_))
            intro g15 w15 e15 c15 t15 s15
            have l15 : w.heap.size ≤ g15 := by have := PT.out.size; omega
            have n135 : g13 ≠ g15 := by have := (Array.getElem?_eq_some_iff.1 D13.out).1; omega
            have n75 : g7 ≠ g15 := by have := (Array.getElem?_eq_some_iff.1 D7.out).1; omega
            clear e15 s15 hcv hap HCC g13lt g7lt
            go_wp2_with (refine wpList_store_blk rfl 62 _ _ rfl g15 _ (u8s Q) _ rfl rfl c15 (size28 hXl hQl) (info28_l hQl) (u8s_one _) ?_)
            intro w16 d16 t16 s16
            clear s16
            have D15 := Lib.hid d16; have D13 := Lib.hid (t16.obj (t15.obj D13.out (fun e => e)) n135); have D7 := Lib.hid (t16.obj (t15.obj D7.out (fun e => e)) n75); have PT := Lib.hid ((PT.out.pure t15).newer t16 l15)
            clear c15 t15 d16 t16 n135 n75 l15
            obtain ⟨k0, k1, k2, k3⟩ := HC.out _ _ D7.out
            have R13 := range_of_row D13.out
            have R15 := range_of_row D15.out
            have n713 := N713.out
            by_cases hev : rj % 2 = 0
            · rw [if_pos hev] at HCSI
              have d1 : ((rj : Int) % 2 == 0) = true := by simp; omega
              have d2 : (rj : Int) % 2 = 0 := by omega
              go_wp2_with (first | (refine wpList_load_mid rfl 62 _ rfl g13 0 rfl (u8s ca) _ R13 Try.underlying62 rfl (info28_l hca) ?_) | (refine wpList_load_mid rfl 62 _ rfl g15 0 rfl (u8s Q) _ R15 Try.underlying62 rfl (info28_l hQl) ?_))
              refine (HJ.out _ ca Q hca hQl).mono ?_
              rintro e w17 ⟨rfl, t17⟩
              have D13 := Lib.hid (t17.obj D13.out (fun e => e)); have D7 := Lib.hid (t17.obj D7.out (fun e => e)); have PT := Lib.hid (PT.out.pure t17)
              clear t17 k0 k1 k2 k3 R13 R15 D15 d1 d2
              rw [← HCSI.out]
              go_wp2_with (refine wpList_store_blk rfl 62 _ _ rfl g13 _ (u8s cb) _ rfl rfl D13.out (by simp [u8s_length, hca, hcb]) (info28_l hcb) (u8s_one _) ?_)
              intro w18 d18 t18 s18
              clear s18
              have D13 := Lib.hid d18; have D7 := Lib.hid (t18.obj D7.out n713); have PT := Lib.hid (PT.out.newer t18 l13)
              clear d18 t18
              go_wp2
              exact ⟨⟨i + 1, by omega, by rw [HR2.out], by rw [HNEXT.out], Lib.hid (by rw [← HCB.out]; exact D13.out), D7, PT⟩, by simp [intOf]; omega⟩
            · rw [if_neg hev] at HCSI
              have d1 : ((rj : Int) % 2 == 0) = false := by simp; omega
              have d2 : ¬ (rj : Int) % 2 = 0 := by omega
              go_wp2_with (first | (refine wpList_load_mid rfl 62 _ rfl g13 0 rfl (u8s ca) _ R13 Try.underlying62 rfl (info28_l hca) ?_) | (refine wpList_load_mid rfl 62 _ rfl g15 0 rfl (u8s Q) _ R15 Try.underlying62 rfl (info28_l hQl) ?_))
              refine (HJ.out _ Q ca hQl hca).mono ?_
              rintro e w17 ⟨rfl, t17⟩
              have D13 := Lib.hid (t17.obj D13.out (fun e => e)); have D7 := Lib.hid (t17.obj D7.out (fun e => e)); have PT := Lib.hid (PT.out.pure t17)
              clear t17 k0 k1 k2 k3 R13 R15 D15 d1 d2
              rw [← HCSI.out]
              go_wp2_with (refine wpList_store_blk rfl 62 _ _ rfl g13 _ (u8s cb) _ rfl rfl D13.out (by simp [u8s_length, hca, hcb]) (info28_l hcb) (u8s_one _) ?_)
              intro w18 d18 t18 s18
              clear s18
              have D13 := Lib.hid d18; have D7 := Lib.hid (t18.obj D7.out n713); have PT := Lib.hid (PT.out.newer t18 l13)
              clear d18 t18
              go_wp2
              exact ⟨⟨i + 1, by omega, by rw [HR2.out], by rw [HNEXT.out], Lib.hid (by rw [← HCB.out]; exact D13.out), D7, PT⟩, by simp [intOf]; omega⟩
          · obtain rfl : i = height := by omega
            rw [List.drop_of_length_le (by rw [HPL.out]; exact Nat.le_refl _), show bstr [] = (⟨#[]⟩ : ByteArray) from rfl]
            have hca := HCL0.out i
            generalize CL i = ca at *
            clear HCS HCZ0
            have zr : (bstr root).size = 32 := by rw [bstr_size, hroot]
            have hv := HV.out
            by_cases heq : ca = root
            · rw [if_pos heq] at hv
              have d1 : (ca != root) = false := by simpa using heq
              have d2 : (ca == root) = true := by simpa using heq
              have HVV := Lib.hid hv
              clear hv heq HV
              go_wp2_with fail
              refine wp_region_G (S := fun w' => Pure wr w' ∧ Held [(g7, Obj.cells C.toArray 88 (0, 0)), (g13, Obj.cells (u8s ca).toArray 62 (0, 0))] w') (T := fun _ _ _ => True) (by kernel_rfl) ⟨(Turn.refl _ _).drew, held_cons (show wr.drew.heap[_]? = _ from D7.out) (held_cons (show wr.drew.heap[_]? = _ from D13.out) (held_nil _))⟩ trivial ?_
              have HG := Grow.held wr [(g7, Obj.cells C.toArray 88 (0, 0)), (g13, Obj.cells (u8s ca).toArray 62 (0, 0))]
              refine atN 0 ?_
              refine anyG_y HG (v := ?_) rfl (by kernel_rfl) (fun _ _ _ h => h) (fun _ _ _ => Iff.rfl) (Or.inl ⟨by rfl, fun w hSw => ?_⟩) ?_
              rotate_left
              · skip
                first | (go_simp; done) | (go_simp; with_reducible rfl)
              simp only [Nat.reduceAdd, AP]
              refine atN 1 ?_
              refine anyG_y HG (v := ?_) rfl (by kernel_rfl) (fun _ _ _ h => h) (fun _ _ _ => Iff.rfl) (Or.inl ⟨by rfl, fun w hSw => ?_⟩) ?_
              rotate_left
              · have hcv := conv_block (P := Try.prog) w 65 5 9 62 (0, 0) Try.underlying65 Try.underlying5 Try.underlying9 g13 32 ca 32 hca hSw.2.tail.head
                first | (go_simp; done) | (go_simp; with_reducible rfl)
              simp only [Nat.reduceAdd, AP]
              refine atN 2 ?_
              refine anyG_y HG (v := ?_) rfl (by kernel_rfl) (fun _ _ _ h => h) (fun _ _ _ => Iff.rfl) (Or.inl ⟨by rfl, fun w hSw => ?_⟩) ?_
              rotate_left
              · skip
                first | (go_simp; done) | (go_simp; with_reducible rfl)
              simp only [Nat.reduceAdd, AP]
              refine atN 3 ?_
              refine anyG_y HG (v := ?_) rfl (by kernel_rfl) (fun _ _ _ h => h) (fun _ _ _ => Iff.rfl) (Or.inl ⟨by rfl, fun w hSw => ?_⟩) ?_
              rotate_left
              · obtain ⟨k0, k1, k2, k3⟩ := HC.out _ _ hSw.2.head
                first | (go_simp; done) | (go_simp; with_reducible rfl)
              simp only [Nat.reduceAdd, AP]
              refine atN 4 ?_
              refine anyG_y HG (v := ?_) rfl (by kernel_rfl) (fun _ _ _ h => h) (fun _ _ _ => Iff.rfl) (Or.inl ⟨by rfl, fun w hSw => ?_⟩) ?_
              rotate_left
              · skip
                first | (go_simp; done) | (go_simp; with_reducible rfl)
              simp only [Nat.reduceAdd, AP]
              refine anyG_done (by kernel_rfl) (fun w20 hS _ => ?_) _
              obtain ⟨hpS, hS⟩ := hS
              clear HG
              have PT := Lib.hid (PT.out.pure hpS)
              clear hS hpS
              go_wp2
              go_ret
              exact ⟨by rw [HVV.out]; rfl, PT.out⟩
            · rw [if_neg heq] at hv
              have d1 : (ca != root) = true := by simpa using heq
              have d2 : (ca == root) = false := by simpa using heq
              have HVV := Lib.hid hv
              clear hv heq HV
              go_wp2_with fail
              refine wp_region_G (S := fun w' => Pure wr w' ∧ Held [(g7, Obj.cells C.toArray 88 (0, 0)), (g13, Obj.cells (u8s ca).toArray 62 (0, 0))] w') (T := fun _ _ _ => True) (by kernel_rfl) ⟨(Turn.refl _ _).drew, held_cons (show wr.drew.heap[_]? = _ from D7.out) (held_cons (show wr.drew.heap[_]? = _ from D13.out) (held_nil _))⟩ trivial ?_
              have HG := Grow.held wr [(g7, Obj.cells C.toArray 88 (0, 0)), (g13, Obj.cells (u8s ca).toArray 62 (0, 0))]
              refine atN 0 ?_
              refine anyG_y HG (v := ?_) rfl (by kernel_rfl) (fun _ _ _ h => h) (fun _ _ _ => Iff.rfl) (Or.inl ⟨by rfl, fun w hSw => ?_⟩) ?_
              rotate_left
              · skip
                first | (go_simp; done) | (go_simp; with_reducible rfl)
              simp only [Nat.reduceAdd, AP]
              refine atN 1 ?_
              refine anyG_y HG (v := ?_) rfl (by kernel_rfl) (fun _ _ _ h => h) (fun _ _ _ => Iff.rfl) (Or.inl ⟨by rfl, fun w hSw => ?_⟩) ?_
              rotate_left
              · have hcv := conv_block (P := Try.prog) w 65 5 9 62 (0, 0) Try.underlying65 Try.underlying5 Try.underlying9 g13 32 ca 32 hca hSw.2.tail.head
                first | (go_simp; done) | (go_simp; with_reducible rfl)
              simp only [Nat.reduceAdd, AP]
              refine atN 2 ?_
              refine anyG_y HG (v := ?_) rfl (by kernel_rfl) (fun _ _ _ h => h) (fun _ _ _ => Iff.rfl) (Or.inl ⟨by rfl, fun w hSw => ?_⟩) ?_
              rotate_left
              · skip
                first | (go_simp; done) | (go_simp; with_reducible rfl)
              simp only [Nat.reduceAdd, AP]
              refine atN 3 ?_
              refine anyG_y HG (v := ?_) rfl (by kernel_rfl) (fun _ _ _ h => h) (fun _ _ _ => Iff.rfl) (Or.inl ⟨by rfl, fun w hSw => ?_⟩) ?_
              rotate_left
              · obtain ⟨k0, k1, k2, k3⟩ := HC.out _ _ hSw.2.head
                first | (go_simp; done) | (go_simp; with_reducible rfl)
              simp only [Nat.reduceAdd, AP]
              refine atN 4 ?_
              refine anyG_y HG (v := ?_) rfl (by kernel_rfl) (fun _ _ _ h => h) (fun _ _ _ => Iff.rfl) (Or.inl ⟨by rfl, fun w hSw => ?_⟩) ?_
              rotate_left
              · skip
                first | (go_simp; done) | (go_simp; with_reducible rfl)
              simp only [Nat.reduceAdd, AP]
              refine anyG_done (by kernel_rfl) (fun w20 hS _ => ?_) _
              obtain ⟨hpS, hS⟩ := hS
              clear HG
              have PT := Lib.hid (PT.out.pure hpS)
              clear hS hpS
              go_wp2
              go_ret
              exact ⟨by rw [HVV.out]; rfl, PT.out⟩

theorem rnumV_n4 {s : List UInt8} {p : Nat} (h : p + 4 ≤ s.length) : rnumV s p = (n4 (s.drop p) : Int) := by
  rw [rnumV, if_pos h, k4V_n4 (by rw [List.length_drop]; omega)]
theorem lsizeV_pos {t o : Int} (h1 : kindB o = true) (h2 : hgtV t ≠ 0) : lsizeV t o = 8 + otsSize o + 32 * hgtV t := by
  have hp : (parV o).2.1 ≠ 0 := by rcases kindB_parts h1 with rfl | rfl <;> decide
  rw [lsizeV, if_neg (fun h => h.elim hp h2), otsSize]
  omega
theorem lsizeV_zero {t o : Int} (h : ¬ (kindB o = true ∧ hgtV t ≠ 0)) : lsizeV t o = 0 := by
  by_cases h1 : kindB o = true
  · have h2 : hgtV t = 0 := by
      rcases Nat.eq_zero_or_pos (hgtV t) with e | e
      · exact e
      · exact absurd ⟨h1, by omega⟩ h
    rw [lsizeV, if_pos (Or.inr h2)]
  · have hk : ¬ (o = 3 ∨ o = 4) := fun e => h1 (decide_eq_true e)
    have hp : (parV o).2.1 = 0 := by
      rw [parV, if_neg (fun e => hk (Or.inl e)), if_neg (fun e => hk (Or.inr e))]
    rw [lsizeV, if_pos (Or.inl hp)]
theorem n4_take {s : List UInt8} {n : Nat} (h : 4 ≤ n) : n4 (s.take n) = n4 s := by
  unfold n4
  rw [List.take_take, Nat.min_eq_left h]
/-- What a taken-apart signature says, as the reference asks it. -/
theorem parts_ref {k : PKey} {s : List UInt8} (hk : kindB k.ots = true) (hl : s.length = pkSize k) :
    (partsV k s).2 = (decide ((n4 (s.drop 4) : Int) = k.ots) && decide ((n4 (s.drop (4 + otsSize k.ots)) : Int) = typeV k.height) && decide (n4 s < 2 ^ k.height)) := by
  have e : pkSize k = 8 + otsSize k.ots + 32 * k.height := rfl
  have h36 : 36 ≤ otsSize k.ots := by rw [otsSize]; omega
  rw [partsV, if_pos hl]
  simp only
  have hX : ((s.drop 4).take (otsSize k.ots)).length = otsSize k.ots := by simp; omega
  have hkX : k4V ((s.drop 4).take (otsSize k.ots)) = (n4 (s.drop 4) : Int) := by rw [k4V_n4 (by omega), n4_take (by omega)]
  have hkd : kindSV ((s.drop 4).take (otsSize k.ots)) = ((n4 (s.drop 4) : Int), kindB (n4 (s.drop 4)) && decide (36 + 32 * (parV (n4 (s.drop 4))).2.1 = otsSize k.ots)) := by
    rw [kindSV, if_neg (by omega), hkX, hX]
  rw [hkd]
  simp only
  by_cases hc : (n4 (s.drop 4) : Int) = k.ots
  · rw [hc, hk]
    simp [otsSize]
    rfl
  · have hc2 : ((n4 (s.drop 4) : Int) == k.ots) = false := by simpa using hc
    rw [hc2, decide_eq_false hc]
    simp

set_option maxRecDepth 100000 in
set_option maxHeartbeats 4000000 in
theorem LmsVerifyR_any (w : World) (pub msg sign : List UInt8) (hp : pub.length ≤ 140737488351232) (hs : sign.length ≤ 140737488351232) : Calls Try.prog 46 #[.string (bstr pub), .string (bstr msg), .string (bstr sign)] w fun e w' =>
    e = .returned (.int .i64 (verifyV pub msg sign)) ∧ Pure w w' := by
  obtain ⟨X, hXl, HZ⟩ := ex28
  have zm0 := bstr_size msg
  have zp0 := bstr_size pub
  have zs0 := bstr_size sign
  have hr0 := fun W => rnum_any W pub 0 hp (by omega)
  have hr4 := fun W => rnum_any W pub 4 hp (by omega)
  have hsz := fun W => lmsSize_any W (rnumV pub 0) (rnumV pub 4)
  obtain ⟨V, hv⟩ : ∃ V, V = verifyV pub msg sign := ⟨_, rfl⟩
  rw [← hv]
  rw [verifyV] at hv
  by_cases hgood : pub.length = 56 ∧ kindB (n4 (pub.drop 4)) = true ∧ hgtV (n4 pub) ≠ 0 ∧ sign.length = 8 + otsSize (n4 (pub.drop 4)) + 32 * hgtV (n4 pub) ∧ msg.length ≤ 65536
  · obtain ⟨h56, hkb, hh0, hsl, hml⟩ := hgood
    have hap : apartV pub = (⟨hgtV (n4 pub), (n4 (pub.drop 4) : Int), (pub.drop 8).take 16, pub.drop 24⟩, true) := by
      rw [apartV, if_pos h56, hkb, decide_eq_true hh0]; rfl
    have e0 : rnumV pub 0 = (n4 pub : Int) := by rw [rnumV_n4 (by omega), List.drop_zero]
    have e4 : rnumV pub 4 = (n4 (pub.drop 4) : Int) := rnumV_n4 (by omega)
    rw [e0] at hr0 hsz
    rw [e4] at hr4 hsz
    rw [lsizeV_pos hkb hh0, ← hsl] at hsz
    rw [hap] at hv
    simp only [if_true] at hv
    have hpr := parts_ref (k := ⟨hgtV (n4 pub), (n4 (pub.drop 4) : Int), (pub.drop 8).take 16, pub.drop 24⟩) (s := sign) hkb hsl
    have hpp : (partsV ⟨hgtV (n4 pub), (n4 (pub.drop 4) : Int), (pub.drop 8).take 16, pub.drop 24⟩ sign).1 = ⟨n4 sign, (sign.drop 4).take (otsSize (n4 (pub.drop 4))), sign.drop (8 + otsSize (n4 (pub.drop 4)))⟩ := by
      rw [partsV, if_pos (by exact hsl)]
    rw [hpr, hpp] at hv
    simp only at hv
    have htt := typeV_hgtV (n4 pub) hh0
    rw [htt] at hv
    have h5 := hgtV_le (n4 pub)
    have hpar := fun W => Params_any W (n4 (pub.drop 4))
    have hhr := fun W => heightOfR_any W (n4 pub)
    have hos : otsSize (n4 (pub.drop 4)) = 36 + 32 * (parV (n4 (pub.drop 4))).2.1 := rfl
    have hp67 := parV_le (n4 (pub.drop 4))
    obtain ⟨id, hid0⟩ : ∃ id, id = (pub.drop 8).take 16 := ⟨_, rfl⟩
    obtain ⟨root, hroot0⟩ : ∃ root, root = pub.drop 24 := ⟨_, rfl⟩
    have hid : id.length = 16 := by rw [hid0]; simp; omega
    have hroot : root.length = 32 := by rw [hroot0]; simp; omega
    have ex1 : (bstr pub).extract 8 24 = bstr id := by rw [bstr_ext, hid0, List.drop_take]
    have ex2 : (bstr pub).extract 24 56 = bstr root := by rw [bstr_ext, hroot0, List.take_of_length_le (by omega)]
    rw [← hid0, ← hroot0] at hv
    generalize hH : hgtV (n4 pub) = height at *
    generalize hK : ((n4 (pub.drop 4) : Nat) : Int) = kd at *
    generalize (parV kd).1 = W1 at *
    generalize (parV kd).2.1 = PP at *
    generalize (parV kd).2.2 = W3 at *
    generalize otsSize kd = N at *
    obtain ⟨en, hen⟩ : ∃ en, en = 40 + 32 * PP := ⟨_, rfl⟩
    have henN : en = 4 + N := by omega
    have hs0 := fun W => rnum_any W sign 0 hs (by omega)
    have hs4 := fun W => rnum_any W sign 4 hs (by omega)
    have hse := fun W => rnum_any W sign en hs (by omega)
    rw [rnumV_n4 (by omega), List.drop_zero] at hs0
    rw [rnumV_n4 (by omega)] at hs4
    rw [rnumV_n4 (by omega)] at hse
    rw [← henN] at hv
    obtain ⟨sg, hsg0⟩ : ∃ sg, sg = (sign.drop 4).take N := ⟨_, rfl⟩
    obtain ⟨path, hpath0⟩ : ∃ path, path = sign.drop (8 + N) := ⟨_, rfl⟩
    rw [← hsg0, ← hpath0] at hv
    have ex3 : (bstr sign).extract 4 en = bstr sg := by rw [bstr_ext, hsg0, List.drop_take, henN]; congr 2; omega
    have hpl : path.length = 32 * height := by rw [hpath0, List.length_drop]; omega
    have HEX : Hid (∀ i a b, a = en + 4 + 32 * i → b = en + 36 + 32 * i → (bstr sign).extract a b = bstr ((path.drop (32 * i)).take 32)) := Lib.hid fun i a b ha hb => by
      rw [bstr_ext, hpath0, List.drop_drop, List.drop_take, ha, hb, henN]
      congr 2
      · omega
      · congr 1; omega
    generalize n4 (sign.drop 4) = k2 at *
    generalize n4 (sign.drop en) = t2 at *
    generalize ht0 : n4 pub = t at *
    obtain ⟨q, hq0⟩ : ∃ q, q = n4 sign := ⟨_, rfl⟩
    have hqlt : q < 4294967296 := by rw [hq0]; exact n4_lt _
    rw [← hq0] at hv hs0
    obtain ⟨Z, hZ⟩ : ∃ Z, Z = sign.length := ⟨_, rfl⟩
    rw [← hZ] at hsz zs0 hsl
    obtain ⟨n, hn⟩ : ∃ n, n = msg.length := ⟨_, rfl⟩
    rw [← hn] at zm0 hml hv
    rw [h56] at zp0
    have hh5 : height = 1 ∨ height = 2 ∨ height = 3 ∨ height = 4 ∨ height = 5 := by omega
    have hsh1 := may_sh1 height hh5
    have hsh2 := may_sh2 height hh5
    have hsh3 := may_sh3 height hh5
    have hp0 : ((2 ^ height : Nat) : Int) = (2 : Int) ^ height := by rw [Int.natCast_pow]; rfl
    have hm32 : 2 ^ height ≤ 32 := by rcases hh5 with rfl | rfl | rfl | rfl | rfl <;> decide
    have hway := fun hq => wayUp_of (h := height) (q := q) (by omega) h5 hq
    obtain ⟨m, hmm⟩ : ∃ m, m = 2 ^ height := ⟨_, rfl⟩
    rw [← hmm] at hp0 hm32 hv hway
    have HSH : Hid (wrap64 ((2 : Int) ^ height) = (m : Int) ∧ IntKind.i64.wrap ((2 : Int) ^ height) = (m : Int) ∧ IntKind.i64.wrap ((2 : Int) ^ min height 64) = (m : Int)) := Lib.hid ⟨by rw [hp0]; exact hsh1, by rw [hp0]; exact hsh2, by rw [hp0]; exact hsh3⟩
    have hZ0 : 0 < Z := by omega
    have b1 : (en : Int) ≤ Z := by omega
    have b2 : (4 : Int) ≤ en := by omega
    have hen2 : (40 : Int) + 32 * (PP : Int) = en := by omega
    have hPPb : (PP : Int) ≤ 67 := by omega
    have HH5 : Hid (height ≤ 5) := Lib.hid h5
    have HEN : Hid (en + 4 + 32 * height = Z ∧ en ≤ 2200) := Lib.hid (by omega)
    have c1 : ((Z : Int) == 0) = false := by simp; omega
    have c1n : (Z == 0) = false := by simp; omega
    have c2 : ((Z : Int) != (Z : Int)) = false := by simp
    have c3 : decide ((65536 : Int) < n) = false := decide_eq_false (by omega)
    have c3n : decide (65536 < n) = false := decide_eq_false (by omega)
    have HR0 := Lib.hid hr0; have HR4 := Lib.hid hr4; have HSZ := Lib.hid hsz; have HPAR := Lib.hid hpar; have HHR := Lib.hid hhr; have HS0 := Lib.hid hs0; have HS4 := Lib.hid hs4; have HSE := Lib.hid hse
    have HWAY0 := Lib.hid hway
    have HQM := Lib.hid (And.intro hqlt hm32)
    by_cases h2 : (k2 : Int) = kd
    case neg =>
      have HV : Hid (V = 500) := Lib.hid (by rw [hv, decide_eq_false h2]; simp)
      have d2 : ((k2 : Int) != kd) = true := by simpa using h2
      clear hr0 hr4 hsz hpar hhr hs0 hs4 hse hsh1 hsh2 hsh3 hh5 hp0 hmm hway hv hen henN hsl hid0 hroot0 hsg0 hpath0 ht0 hq0 hZ hn hH hK hpr hpp hap htt hos hp67 e0 e4 hkb hh0 h5
      clear h2 HEX HSH
      go_enter Try.func46, Try.ntmps46
      go_wp2_with fail
      refine (HR0.out _).mono ?_
      rintro e w1 ⟨rfl, t1⟩
      have PT := Lib.hid t1
      clear t1
      go_wp2_with fail
      refine (HR4.out _).mono ?_
      rintro e w2 ⟨rfl, t2⟩
      have PT := Lib.hid (PT.out.pure t2)
      clear t2
      go_wp2_with fail
      refine (HSZ.out _).mono ?_
      rintro e w3 ⟨rfl, rfl⟩
      go_wp2_with fail
      refine (HPAR.out _).mono ?_
      rintro e w4 ⟨rfl, rfl⟩
      go_wp2_with fail
      refine (HHR.out _).mono ?_
      rintro e w5 ⟨rfl, rfl⟩
      go_wp2_with fail
      refine (HS0.out _).mono ?_
      rintro e w6 ⟨rfl, t6⟩
      have PT := Lib.hid (PT.out.pure t6)
      clear t6
      go_wp2_with fail
      refine (HS4.out _).mono ?_
      rintro e w7 ⟨rfl, t7⟩
      have PT := Lib.hid (PT.out.pure t7)
      clear t7
      go_wp2
      go_ret
      exact ⟨by rw [HV.out]; rfl, PT.out⟩
    case pos =>
      have d2 : ((k2 : Int) != kd) = false := by simpa using h2
      by_cases h3 : (t2 : Int) = (t : Int)
      case neg =>
        have HV : Hid (V = 500) := Lib.hid (by rw [hv, decide_eq_false h3]; simp)
        have d3 : ((t2 : Int) != (t : Int)) = true := by simpa using h3
        have d3n : (t2 != t) = true := by simp; omega
        clear hr0 hr4 hsz hpar hhr hs0 hs4 hse hsh1 hsh2 hsh3 hh5 hp0 hmm hway hv hen henN hsl hid0 hroot0 hsg0 hpath0 ht0 hq0 hZ hn hH hK hpr hpp hap htt hos hp67 e0 e4 hkb hh0 h5
        clear h2 h3 HEX HSH
        go_enter Try.func46, Try.ntmps46
        go_wp2_with fail
        refine (HR0.out _).mono ?_
        rintro e w1 ⟨rfl, t1⟩
        have PT := Lib.hid t1
        clear t1
        go_wp2_with fail
        refine (HR4.out _).mono ?_
        rintro e w2 ⟨rfl, t2⟩
        have PT := Lib.hid (PT.out.pure t2)
        clear t2
        go_wp2_with fail
        refine (HSZ.out _).mono ?_
        rintro e w3 ⟨rfl, rfl⟩
        go_wp2_with fail
        refine (HPAR.out _).mono ?_
        rintro e w4 ⟨rfl, rfl⟩
        go_wp2_with fail
        refine (HHR.out _).mono ?_
        rintro e w5 ⟨rfl, rfl⟩
        go_wp2_with fail
        refine (HS0.out _).mono ?_
        rintro e w6 ⟨rfl, t6⟩
        have PT := Lib.hid (PT.out.pure t6)
        clear t6
        go_wp2_with fail
        refine (HS4.out _).mono ?_
        rintro e w7 ⟨rfl, t7⟩
        have PT := Lib.hid (PT.out.pure t7)
        clear t7
        go_wp2_with fail
        refine (HSE.out _).mono ?_
        rintro e w8 ⟨rfl, t8⟩
        have PT := Lib.hid (PT.out.pure t8)
        clear t8
        go_wp2
        go_ret
        exact ⟨by rw [HV.out]; rfl, PT.out⟩
      case pos =>
        have d3 : ((t2 : Int) != (t : Int)) = false := by simpa using h3
        have d3n : (t2 != t) = false := by simp; omega
        by_cases h4 : q < m
        case neg =>
          have HV : Hid (V = 500) := Lib.hid (by rw [hv, decide_eq_false h4]; simp)
          have d4 : decide ((m : Int) ≤ (q : Int)) = true := decide_eq_true (by omega)
          have d4n : decide (m ≤ q) = true := decide_eq_true (by omega)
          clear hr0 hr4 hsz hpar hhr hs0 hs4 hse hsh1 hsh2 hsh3 hh5 hp0 hmm hway hv hen henN hsl hid0 hroot0 hsg0 hpath0 ht0 hq0 hZ hn hH hK hpr hpp hap htt hos hp67 e0 e4 hkb hh0 h5
          clear h2 h3 h4 HEX
          obtain ⟨hsh1, hsh2, hsh3⟩ := HSH.out
          go_enter Try.func46, Try.ntmps46
          go_wp2_with fail
          refine (HR0.out _).mono ?_
          rintro e w1 ⟨rfl, t1⟩
          have PT := Lib.hid t1
          clear t1
          go_wp2_with fail
          refine (HR4.out _).mono ?_
          rintro e w2 ⟨rfl, t2⟩
          have PT := Lib.hid (PT.out.pure t2)
          clear t2
          go_wp2_with fail
          refine (HSZ.out _).mono ?_
          rintro e w3 ⟨rfl, rfl⟩
          go_wp2_with fail
          refine (HPAR.out _).mono ?_
          rintro e w4 ⟨rfl, rfl⟩
          go_wp2_with fail
          refine (HHR.out _).mono ?_
          rintro e w5 ⟨rfl, rfl⟩
          go_wp2_with fail
          refine (HS0.out _).mono ?_
          rintro e w6 ⟨rfl, t6⟩
          have PT := Lib.hid (PT.out.pure t6)
          clear t6
          go_wp2_with fail
          refine (HS4.out _).mono ?_
          rintro e w7 ⟨rfl, t7⟩
          have PT := Lib.hid (PT.out.pure t7)
          clear t7
          go_wp2_with fail
          refine (HSE.out _).mono ?_
          rintro e w8 ⟨rfl, t8⟩
          have PT := Lib.hid (PT.out.pure t8)
          clear t8
          go_wp2
          go_ret
          exact ⟨by rw [HV.out]; rfl, PT.out⟩
        case pos =>
          have d4 : decide ((m : Int) ≤ (q : Int)) = false := decide_eq_false (by omega)
          have d4n : decide (m ≤ q) = false := decide_eq_false (by omega)
          rw [if_pos ⟨by rw [decide_eq_true h2, decide_eq_true h3, decide_eq_true h4]; rfl, hml⟩] at hv
          have hway := hway h4
          obtain ⟨r, hr⟩ : ∃ r, r = m + q := ⟨_, rfl⟩
          rw [← hr] at hv hway
          have hr64 : r < 64 := by omega
          have hri : IntKind.i64.wrap ((m : Int) + (q : Int)) = (r : Int) := by rw [IntWalk.i64_in _ (by omega)]; omega
          have hri2 : (m : Int) + (q : Int) = (r : Int) := by omega
          have HRI := Lib.hid (And.intro hri hri2)
          have hcd := fun W => RCandidate_all W id q msg sg (by rw [hsg0]; simp; omega)
          have hcl := candV_length id q msg sg
          generalize (candV id q msg sg).1 = cd at *
          generalize (candV id q msg sg).2 = ce at *
          have htl : (tipV id r cd).length = 32 := shaV_length _
          have htp0 : tipV id r cd = shaV (id ++ beB r 4 ++ [130, 130] ++ cd) := rfl
          generalize tipV id r cd = tp at *
          have hbe := fun W => Be_anyS r 4 W (by omega) (by omega)
          have hb : (beB r 4).length = 4 := beB_length _ _
          generalize beB r 4 = b4 at hbe hb htp0
          obtain ⟨A1, hA1⟩ : ∃ A1, A1 = id ++ b4 := ⟨_, rfl⟩
          have A1l : A1.length = 16 + 4 := by rw [hA1, List.length_append]; first | rfl | omega | (simp [hid, hb]; omega) | simp [hid, hb]
          have aA1 : bstr id ++ bstr b4 = bstr A1 := by rw [hA1]; exact bstr_app id b4
          have zA1 : (bstr A1).size = 16 + 4 := by rw [bstr_size, A1l]
          have nA1 : ¬ (9223372036854775807 < 16 + 4) := by omega
          obtain ⟨A2, hA2⟩ : ∃ A2, A2 = A1 ++ [130, 130] := ⟨_, rfl⟩
          have A2l : A2.length = (16 + 4) + 2 := by rw [hA2, List.length_append]; first | rfl | omega | (simp; omega) | simp
          have aA2 : bstr A1 ++ (⟨#[130, 130]⟩ : ByteArray) = bstr A2 := by rw [hA2]; exact bstr_app A1 [130, 130]
          have zA2 : (bstr A2).size = (16 + 4) + 2 := by rw [bstr_size, A2l]
          have nA2 : ¬ (9223372036854775807 < (16 + 4) + 2) := by omega
          obtain ⟨A3, hA3⟩ : ∃ A3, A3 = A2 ++ cd := ⟨_, rfl⟩
          have A3l : A3.length = (16 + 4 + 2) + 32 := by rw [hA3, List.length_append]; first | rfl | omega | (simp; omega) | simp
          have aA3 : bstr A2 ++ bstr cd = bstr A3 := by rw [hA3]; exact bstr_app A2 cd
          have zA3 : (bstr A3).size = (16 + 4 + 2) + 32 := by rw [bstr_size, A3l]
          have nA3 : ¬ (9223372036854775807 < (16 + 4 + 2) + 32) := by omega
          rw [← hA1, ← hA2, ← hA3] at htp0
          have zi : (bstr id).size = 16 := by rw [bstr_size, hid]
          have z4 : (bstr b4).size = 4 := by rw [bstr_size, hb]
          have zc : (bstr cd).size = 32 := by rw [bstr_size, hcl]
          have HH := Lib.hid (fun W => H_any W A3 (by omega))
          rw [← htp0] at HH
          have HT := Lib.hid (fun W => T_any W cd hcl); have HBE := Lib.hid hbe; have HCD := Lib.hid hcd; have HWAY := Lib.hid hway
          have hcl0 := fun i => climbV_length (id := id) (path := path) (r := r) htl i
          have hcs : ∀ i, climbV id path r tp (i + 1) = if (r / 2 ^ i) % 2 = 0 then nodV id (r / 2 ^ (i + 1)) (climbV id path r tp i) ((path.drop (32 * i)).take 32) else nodV id (r / 2 ^ (i + 1)) ((path.drop (32 * i)).take 32) (climbV id path r tp i) := fun i => rfl
          have hcz : climbV id path r tp 0 = tp := rfl
          generalize climbV id path r tp = CL at *
          have HCL0 := Lib.hid hcl0; have HCS := Lib.hid hcs; have HCZ0 := Lib.hid hcz; have HV := Lib.hid hv; have HPL := Lib.hid hpl
          clear hr0 hr4 hsz hpar hhr hs0 hs4 hse hsh1 hsh2 hsh3 hh5 hp0 hmm hway hv hen henN hsl hid0 hroot0 hsg0 hpath0 ht0 hq0 hZ hn hH hK hpr hpp hap htt hos hp67 e0 e4 hkb hh0 h5
          clear h2 h3 h4 hA1 hA2 hA3 A1l A2l A3l htp0 hbe hb hcd hcl0 hcs hcz hri hri2 hr hpl
          go_enter Try.func46, Try.ntmps46
          go_wp2_with fail
          refine (HR0.out _).mono ?_
          rintro e w1 ⟨rfl, t1⟩
          have PT := Lib.hid t1
          clear t1
          go_wp2_with fail
          refine (HR4.out _).mono ?_
          rintro e w2 ⟨rfl, t2⟩
          have PT := Lib.hid (PT.out.pure t2)
          clear t2
          go_wp2_with fail
          refine (HSZ.out _).mono ?_
          rintro e w3 ⟨rfl, rfl⟩
          go_wp2_with fail
          refine (HPAR.out _).mono ?_
          rintro e w4 ⟨rfl, rfl⟩
          go_wp2_with fail
          refine (HHR.out _).mono ?_
          rintro e w5 ⟨rfl, rfl⟩
          go_wp2_with fail
          refine (HS0.out _).mono ?_
          rintro e w6 ⟨rfl, t6⟩
          have PT := Lib.hid (PT.out.pure t6)
          clear t6
          go_wp2_with fail
          refine (HS4.out _).mono ?_
          rintro e w7 ⟨rfl, t7⟩
          have PT := Lib.hid (PT.out.pure t7)
          clear t7
          obtain ⟨hsh1, hsh2, hsh3⟩ := HSH.out
          go_wp2_with fail
          refine (HSE.out _).mono ?_
          rintro e w8 ⟨rfl, t8⟩
          have PT := Lib.hid (PT.out.pure t8)
          clear t8
          go_wp2_with fail
          clear hsh1 hsh2 hsh3
          refine (HCD.out _).mono ?_
          rintro e w9 ⟨rfl, t9⟩
          have PT := Lib.hid (PT.out.pure t9)
          clear t9
          go_wp2_with (refine wpList_allocZ rfl 62 rfl X HZ.out ?_)
          intro g17 w10 e10 c10 t10 s10
          have l17 : w.heap.size ≤ g17 := by have := PT.out.size; omega
          clear e10 s10
          go_wp2_with (refine wpList_store_blk rfl 62 _ _ rfl g17 _ (u8s cd) _ rfl rfl c10 (size28 hXl hcl) (info28_l hcl) (u8s_one _) ?_)
          intro w11 d11 t11 s11
          clear s11
          have D17 := Lib.hid d11; have PT := Lib.hid ((PT.out.pure t10).newer t11 l17)
          clear c10 t10 d11 t11
          obtain ⟨hsh1, hsh2, hsh3⟩ := HSH.out
          obtain ⟨hri, hri2⟩ := HRI.out
          go_wp2_with fail
          refine wp_region_G (S := fun w' => Pure w11 w' ∧ Held [(g17, Obj.cells (u8s cd).toArray 62 (0, 0))] w') (T := fun _ _ _ => True) (by kernel_rfl) ⟨(Turn.refl _ _).drew, held_cons (show w11.drew.heap[_]? = _ from D17.out) (held_nil _)⟩ trivial ?_
          have HG := Grow.held w11 [(g17, Obj.cells (u8s cd).toArray 62 (0, 0))]
          refine atN 0 ?_
          iterate 2
            refine anyG_y HG (v := ?_) rfl (by kernel_rfl) (fun _ _ _ h => h) (fun _ _ _ => Iff.rfl) (Or.inl ⟨by rfl, fun w hSw => ?_⟩) ?_
            rotate_left
            · skip
              first | (go_simp; done) | (go_simp; with_reducible rfl)
            simp only [Nat.reduceAdd, AP]
          refine anyG_take HG (i := 5) (v := hv cd) rfl (by kernel_rfl) (by kernel_rfl) (by kernel_rfl) (fun _ _ _ h => h) (fun _ _ _ => Iff.rfl) (yieldsIf_load_mid (by rfl) 62 _ rfl g17 0 rfl (u8s cd) _ (fun w hSw => range_of_row hSw.2.head) Try.underlying62 rfl (info28_l hcl)) ?_
          simp only [AP]
          refine anyG_call HG (i := 2) (fun w hSw => HBE.out w) rfl (by kernel_rfl) (by kernel_rfl) (by kernel_rfl) (fun _ _ _ h => h) (fun _ _ _ => Iff.rfl) (by rfl) (fun w hSw => by go_simp; first | done | with_reducible rfl) ?_
          simp only [AP]
          refine anyG_take HG (i := 3) (v := ?_) rfl (by kernel_rfl) (by kernel_rfl) (by kernel_rfl) (fun _ _ _ h => h) (fun _ _ _ => Iff.rfl) (Or.inl ⟨by rfl, fun w hSw => ?_⟩) ?_
          rotate_left
          · skip
            first | (go_simp; done) | (go_simp; with_reducible rfl)
          simp only [AP]
          refine anyG_take HG (i := 4) (v := ?_) rfl (by kernel_rfl) (by kernel_rfl) (by kernel_rfl) (fun _ _ _ h => h) (fun _ _ _ => Iff.rfl) (Or.inl ⟨by rfl, fun w hSw => ?_⟩) ?_
          rotate_left
          · skip
            first | (go_simp; done) | (go_simp; with_reducible rfl)
          simp only [AP]
          refine anyG_call HG (i := 6) (fun w hSw => HT.out w) rfl (by kernel_rfl) (by kernel_rfl) (by kernel_rfl) (fun _ _ _ h => h) (fun _ _ _ => Iff.rfl) (by rfl) (fun w hSw => by go_simp; first | done | with_reducible rfl) ?_
          simp only [AP]
          refine anyG_take HG (i := 7) (v := ?_) rfl (by kernel_rfl) (by kernel_rfl) (by kernel_rfl) (fun _ _ _ h => h) (fun _ _ _ => Iff.rfl) (Or.inl ⟨by rfl, fun w hSw => ?_⟩) ?_
          rotate_left
          · skip
            first | (go_simp; done) | (go_simp; with_reducible rfl)
          simp only [AP]
          refine anyG_call HG (i := 8) (fun w hSw => HH.out w) rfl (by kernel_rfl) (by kernel_rfl) (by kernel_rfl) (fun _ _ _ h => h) (fun _ _ _ => Iff.rfl) (by rfl) (fun w hSw => by go_simp; first | done | with_reducible rfl) ?_
          simp only [AP]
          refine anyG_take HG (i := 9) (v := ?_) rfl (by kernel_rfl) (by kernel_rfl) (by kernel_rfl) (fun _ _ _ h => h) (fun _ _ _ => Iff.rfl) (Or.inl ⟨by rfl, fun w hSw => ?_⟩) ?_
          rotate_left
          · skip
            first | (go_simp; done) | (go_simp; with_reducible rfl)
          simp only [AP]
          refine anyG_done (by kernel_rfl) (fun w12 hS _ => ?_) _
          obtain ⟨hpS, hS⟩ := hS
          clear HG
          have PT := Lib.hid (PT.out.pure hpS)
          clear hS hpS
          go_wp2_with fail
          clear hsh1 hsh2 hsh3 hri hri2
          go_loopw [19, 20, 21] (fun rr xx ii wr => ∃ i : Nat, i ≤ height ∧ ii = .int .i64 (i : Int) ∧ rr = .int .i64 ((r / 2 ^ i : Nat) : Int) ∧ xx = .string (bstr (CL i)) ∧ Hid (Pure w wr)) (fun _ _ ii _ => height - (intOf ii).toNat)
          case atStart => exact ⟨0, Nat.zero_le _, rfl, by rw [Nat.pow_zero, Nat.div_one], by rw [HCZ0.out], PT⟩
          case round =>
            obtain ⟨i, hi, rfl, rfl, rfl, PT⟩ := hrel
            by_cases hlt : i < height
            · obtain ⟨Q, hQ⟩ : ∃ Q, Q = (path.drop (32 * i)).take 32 := ⟨_, rfl⟩
              have hQl : Q.length = 32 := by rw [hQ, List.length_take, List.length_drop, HPL.out]; omega
              obtain ⟨a0, ha0⟩ : ∃ a0, a0 = en + 4 := ⟨_, rfl⟩
              obtain ⟨b0, hb0⟩ : ∃ b0, b0 = en + 36 := ⟨_, rfl⟩
              obtain ⟨c0, hc0⟩ : ∃ c0, c0 = 32 * i := ⟨_, rfl⟩
              obtain ⟨aa, haa⟩ : ∃ aa, aa = a0 + c0 := ⟨_, rfl⟩
              obtain ⟨bb, hbb⟩ : ∃ bb, bb = b0 + c0 := ⟨_, rfl⟩
              have ex5 : (bstr sign).extract aa bb = bstr Q := by rw [hQ]; exact HEX.out i aa bb (by omega) (by omega)
              have f1 : (en : Int) + 4 = (a0 : Int) := by omega
              have f2 : (en : Int) + 36 = (b0 : Int) := by omega
              have f3 : 32 * (i : Int) = (c0 : Int) := by omega
              have f4 : (a0 : Int) + (c0 : Int) = (aa : Int) := by omega
              have f5 : (b0 : Int) + (c0 : Int) = (bb : Int) := by omega
              have f6 : (en : Int) ≤ 2200 := by have := HEN.out; omega
              have f7 : (i : Int) < height := by omega
              have f8 : (a0 : Int) ≤ 3000 ∧ (b0 : Int) ≤ 3000 ∧ (c0 : Int) ≤ 3000 := by have := HEN.out; have := HH5.out; omega
              have f9 : (aa : Int) ≤ bb ∧ (bb : Int) ≤ Z ∧ (0 : Int) ≤ aa := by have := HEN.out; omega
              obtain ⟨f81, f82, f83⟩ := f8
              obtain ⟨f91, f92, f93⟩ := f9
              have f10 : (height : Int) ≤ 5 := by have := HH5.out; omega
              have hcs := HCS.out i
              rw [← hQ] at hcs
              obtain ⟨y1, y2⟩ := HWAY.out.low i hlt
              have hdv : r / 2 ^ i / 2 = r / 2 ^ (i + 1) := by rw [Nat.div_div_eq_div_mul, Nat.pow_succ]
              rw [← hdv] at hcs
              have hca := HCL0.out i
              have y3 : r / 2 ^ i < 64 := Nat.lt_of_le_of_lt (Nat.div_le_self _ _) hr64
              have HDV := Lib.hid hdv
              generalize r / 2 ^ i = rj at *
              generalize CL i = ca at *
              obtain ⟨cb, hcb0⟩ : ∃ cb, cb = CL (i + 1) := ⟨_, rfl⟩
              rw [← hcb0] at hcs
              have HCB := Lib.hid hcb0
              have hj0 : (rj : Int) / 2 = ((rj / 2 : Nat) : Int) := by omega
              have HR2 : Hid ((rj : Int) / 2 = ((r / 2 ^ (i + 1) : Nat) : Int)) := Lib.hid (by rw [← HDV.out]; exact hj0)
              have hbe : ∀ W, Calls Try.prog 37 #[.int .i64 ((rj : Int) / 2), .int .i64 4] W fun e w' => e = .returned (.string (bstr (beB (rj / 2) 4))) ∧ Pure W w' := fun W => by
                rw [hj0]; exact Be_anyS (rj / 2) 4 W (by omega) (by omega)
              have hb : (beB (rj / 2) 4).length = 4 := beB_length _ _
              have y4 : (rj : Int) < 64 := by omega
              have zx : (bstr ca).size = 32 := by rw [bstr_size, hca]
              have zQ : (bstr Q).size = 32 := by rw [bstr_size, hQl]
              have q0 : decide ((i : Int) < (height : Int)) = true := decide_eq_true (by omega)
              have q0n : decide (i < height) = true := decide_eq_true hlt
              clear hQ ha0 hb0 hc0 haa hbb hdv hcb0 hj0 y3
              by_cases hev : rj % 2 = 0
              · rw [if_pos hev, nodV] at hcs
                generalize beB (rj / 2) 4 = b5 at hbe hb hcs
                have d1 : ((rj : Int) % 2 == 1) = false := by simp; omega
                have d2 : (rj : Int) % 2 = 0 := by omega
                obtain ⟨E1, hE1⟩ : ∃ E1, E1 = id ++ b5 := ⟨_, rfl⟩
                have E1l : E1.length = 16 + 4 := by rw [hE1, List.length_append]; first | rfl | omega | (simp [hid, hb]; omega) | simp [hid, hb]
                have aE1 : bstr id ++ bstr b5 = bstr E1 := by rw [hE1]; exact bstr_app id b5
                have zE1 : (bstr E1).size = 16 + 4 := by rw [bstr_size, E1l]
                have nE1 : ¬ (9223372036854775807 < 16 + 4) := by omega
                obtain ⟨E2, hE2⟩ : ∃ E2, E2 = E1 ++ [131, 131] := ⟨_, rfl⟩
                have E2l : E2.length = (16 + 4) + 2 := by rw [hE2, List.length_append]; first | rfl | omega | (simp; omega) | simp
                have aE2 : bstr E1 ++ (⟨#[131, 131]⟩ : ByteArray) = bstr E2 := by rw [hE2]; exact bstr_app E1 [131, 131]
                have zE2 : (bstr E2).size = (16 + 4) + 2 := by rw [bstr_size, E2l]
                have nE2 : ¬ (9223372036854775807 < (16 + 4) + 2) := by omega
                obtain ⟨E3, hE3⟩ : ∃ E3, E3 = E2 ++ ca := ⟨_, rfl⟩
                have E3l : E3.length = (16 + 4 + 2) + 32 := by rw [hE3, List.length_append]; first | rfl | omega | (simp; omega) | simp
                have aE3 : bstr E2 ++ bstr ca = bstr E3 := by rw [hE3]; exact bstr_app E2 ca
                have zE3 : (bstr E3).size = (16 + 4 + 2) + 32 := by rw [bstr_size, E3l]
                have nE3 : ¬ (9223372036854775807 < (16 + 4 + 2) + 32) := by omega
                obtain ⟨E4, hE4⟩ : ∃ E4, E4 = E3 ++ Q := ⟨_, rfl⟩
                have E4l : E4.length = (16 + 4 + 2 + 32) + 32 := by rw [hE4, List.length_append]; first | rfl | omega | (simp; omega) | simp
                have aE4 : bstr E3 ++ bstr Q = bstr E4 := by rw [hE4]; exact bstr_app E3 Q
                have zE4 : (bstr E4).size = (16 + 4 + 2 + 32) + 32 := by rw [bstr_size, E4l]
                have nE4 : ¬ (9223372036854775807 < (16 + 4 + 2 + 32) + 32) := by omega
                rw [← hE1, ← hE2, ← hE3, ← hE4] at hcs
                have z5 : (bstr b5).size = 4 := by rw [bstr_size, hb]
                have HH2 := Lib.hid (fun W => H_any W E4 (by omega))
                rw [← hcs] at HH2
                have HBE2 := Lib.hid hbe
                clear hE1 hE2 hE3 hE4 E1l E2l E3l E4l hbe hb hcs hev
                go_wp2_with fail
                refine (HBE2.out _).mono ?_
                rintro e w13 ⟨rfl, t13⟩
                have PT := Lib.hid (PT.out.pure t13)
                clear t13
                go_wp2_with fail
                refine (HH2.out _).mono ?_
                rintro e w14 ⟨rfl, t14⟩
                have PT := Lib.hid (PT.out.pure t14)
                clear t14
                go_wp2
                exact ⟨⟨i + 1, by omega, by go_num, by rw [HR2.out], by rw [HCB.out], PT⟩, by simp [intOf]; omega⟩
              · rw [if_neg hev, nodV] at hcs
                generalize beB (rj / 2) 4 = b5 at hbe hb hcs
                have d1 : ((rj : Int) % 2 == 1) = true := by simp; omega
                have d2 : (rj : Int) % 2 = 1 := by omega
                obtain ⟨E1, hE1⟩ : ∃ E1, E1 = id ++ b5 := ⟨_, rfl⟩
                have E1l : E1.length = 16 + 4 := by rw [hE1, List.length_append]; first | rfl | omega | (simp [hid, hb]; omega) | simp [hid, hb]
                have aE1 : bstr id ++ bstr b5 = bstr E1 := by rw [hE1]; exact bstr_app id b5
                have zE1 : (bstr E1).size = 16 + 4 := by rw [bstr_size, E1l]
                have nE1 : ¬ (9223372036854775807 < 16 + 4) := by omega
                obtain ⟨E2, hE2⟩ : ∃ E2, E2 = E1 ++ [131, 131] := ⟨_, rfl⟩
                have E2l : E2.length = (16 + 4) + 2 := by rw [hE2, List.length_append]; first | rfl | omega | (simp; omega) | simp
                have aE2 : bstr E1 ++ (⟨#[131, 131]⟩ : ByteArray) = bstr E2 := by rw [hE2]; exact bstr_app E1 [131, 131]
                have zE2 : (bstr E2).size = (16 + 4) + 2 := by rw [bstr_size, E2l]
                have nE2 : ¬ (9223372036854775807 < (16 + 4) + 2) := by omega
                obtain ⟨E3, hE3⟩ : ∃ E3, E3 = E2 ++ Q := ⟨_, rfl⟩
                have E3l : E3.length = (16 + 4 + 2) + 32 := by rw [hE3, List.length_append]; first | rfl | omega | (simp; omega) | simp
                have aE3 : bstr E2 ++ bstr Q = bstr E3 := by rw [hE3]; exact bstr_app E2 Q
                have zE3 : (bstr E3).size = (16 + 4 + 2) + 32 := by rw [bstr_size, E3l]
                have nE3 : ¬ (9223372036854775807 < (16 + 4 + 2) + 32) := by omega
                obtain ⟨E4, hE4⟩ : ∃ E4, E4 = E3 ++ ca := ⟨_, rfl⟩
                have E4l : E4.length = (16 + 4 + 2 + 32) + 32 := by rw [hE4, List.length_append]; first | rfl | omega | (simp; omega) | simp
                have aE4 : bstr E3 ++ bstr ca = bstr E4 := by rw [hE4]; exact bstr_app E3 ca
                have zE4 : (bstr E4).size = (16 + 4 + 2 + 32) + 32 := by rw [bstr_size, E4l]
                have nE4 : ¬ (9223372036854775807 < (16 + 4 + 2 + 32) + 32) := by omega
                rw [← hE1, ← hE2, ← hE3, ← hE4] at hcs
                have z5 : (bstr b5).size = 4 := by rw [bstr_size, hb]
                have HH2 := Lib.hid (fun W => H_any W E4 (by omega))
                rw [← hcs] at HH2
                have HBE2 := Lib.hid hbe
                clear hE1 hE2 hE3 hE4 E1l E2l E3l E4l hbe hb hcs hev
                go_wp2_with fail
                refine (HBE2.out _).mono ?_
                rintro e w13 ⟨rfl, t13⟩
                have PT := Lib.hid (PT.out.pure t13)
                clear t13
                go_wp2_with fail
                refine (HH2.out _).mono ?_
                rintro e w14 ⟨rfl, t14⟩
                have PT := Lib.hid (PT.out.pure t14)
                clear t14
                go_wp2
                exact ⟨⟨i + 1, by omega, by go_num, by rw [HR2.out], by rw [HCB.out], PT⟩, by simp [intOf]; omega⟩
            · obtain rfl : i = height := by omega
              have hca := HCL0.out i
              have hv := HV.out
              generalize CL i = ca at *
              have zx : (bstr ca).size = 32 := by rw [bstr_size, hca]
              have zr : (bstr root).size = 32 := by rw [bstr_size, hroot]
              clear HV HCS HCZ0
              by_cases heq : ca = root
              · rw [if_pos heq] at hv
                have d1 : (ca != root) = false := by simpa using heq
                have d2 : (ca == root) = true := by simpa using heq
                have HV := Lib.hid hv
                clear hv heq
                go_wp2
                go_ret
                exact ⟨by rw [HV.out]; rfl, PT.out⟩
              · rw [if_neg heq] at hv
                have d1 : (ca != root) = true := by simpa using heq
                have d2 : (ca == root) = false := by simpa using heq
                have HV := Lib.hid hv
                clear hv heq
                go_wp2
                go_ret
                exact ⟨by rw [HV.out]; rfl, PT.out⟩

  · by_cases h56 : pub.length = 56
    case neg =>
      have hV : V = 500 := by rw [hv, apartV, if_neg h56]; rfl
      have d1 : ((pub.length : Int) != 56) = true := by simp; omega
      have d1n : (pub.length != 56) = true := by simp; omega
      generalize pub.length = np at *
      generalize rnumV pub 0 = t0 at *
      generalize rnumV pub 4 = k0 at *
      generalize lsizeV t0 k0 = Z at *
      have HV := Lib.hid hV; have HR0 := Lib.hid hr0; have HR4 := Lib.hid hr4; have HSZ := Lib.hid hsz
      clear hV hv hr0 hr4 hsz hgood h56 hp hs
      go_enter Try.func46, Try.ntmps46
      go_wp2_with fail
      refine (HR0.out _).mono ?_
      rintro e w1 ⟨rfl, t1⟩
      have PT := Lib.hid t1
      clear t1
      go_wp2_with fail
      refine (HR4.out _).mono ?_
      rintro e w2 ⟨rfl, t2⟩
      have PT := Lib.hid (PT.out.pure t2)
      clear t2
      go_wp2_with fail
      refine (HSZ.out _).mono ?_
      rintro e w3 ⟨rfl, rfl⟩
      go_wp2
      go_ret
      exact ⟨by rw [HV.out]; rfl, PT.out⟩
    case pos =>
      have e0 : rnumV pub 0 = (n4 pub : Int) := by rw [rnumV_n4 (by omega), List.drop_zero]
      have e4 : rnumV pub 4 = (n4 (pub.drop 4) : Int) := rnumV_n4 (by omega)
      rw [e0] at hr0 hsz
      rw [e4] at hr4 hsz
      rw [h56] at zp0
      by_cases hkh : kindB (n4 (pub.drop 4)) = true ∧ hgtV (n4 pub) ≠ 0
      case neg =>
        have hV : V = 500 := by
          have : (apartV pub).2 = false := by
            rw [apartV, if_pos h56]
            simp only
            by_cases h1 : kindB (n4 (pub.drop 4)) = true
            · rw [decide_eq_false (fun h => hkh ⟨h1, h⟩)]; rfl
            · rw [Bool.eq_false_iff.2 h1]; simp
          rw [hv, this]; rfl
        rw [lsizeV_zero hkh] at hsz
        generalize n4 pub = t0 at *
        generalize n4 (pub.drop 4) = k0 at *
        have HV := Lib.hid hV; have HR0 := Lib.hid hr0; have HR4 := Lib.hid hr4; have HSZ := Lib.hid hsz
        clear hV hv hr0 hr4 hsz hgood h56 hp hs hkh e0 e4
        go_enter Try.func46, Try.ntmps46
        go_wp2_with fail
        refine (HR0.out _).mono ?_
        rintro e w1 ⟨rfl, t1⟩
        have PT := Lib.hid t1
        clear t1
        go_wp2_with fail
        refine (HR4.out _).mono ?_
        rintro e w2 ⟨rfl, t2⟩
        have PT := Lib.hid (PT.out.pure t2)
        clear t2
        go_wp2_with fail
        refine (HSZ.out _).mono ?_
        rintro e w3 ⟨rfl, rfl⟩
        go_wp2
        go_ret
        exact ⟨by rw [HV.out]; rfl, PT.out⟩
      case pos =>
        have hap : apartV pub = (⟨hgtV (n4 pub), (n4 (pub.drop 4) : Int), (pub.drop 8).take 16, pub.drop 24⟩, true) := by
          rw [apartV, if_pos h56, hkh.1, decide_eq_true hkh.2]; rfl
        rw [hap] at hv
        simp only [if_true] at hv
        rw [lsizeV_pos hkh.1 hkh.2] at hsz
        by_cases hsl : sign.length = 8 + otsSize (n4 (pub.drop 4)) + 32 * hgtV (n4 pub)
        case neg =>
          have hV : V = 500 := by
            have : (partsV ⟨hgtV (n4 pub), (n4 (pub.drop 4) : Int), (pub.drop 8).take 16, pub.drop 24⟩ sign).2 = false := by
              rw [partsV, if_neg (by exact hsl)]
            rw [hv, this]; simp
          have h36 : 36 ≤ otsSize (n4 (pub.drop 4)) := by rw [otsSize]; omega
          generalize 8 + otsSize (n4 (pub.drop 4)) + 32 * hgtV (n4 pub) = Z at *
          generalize n4 pub = t0 at *
          generalize n4 (pub.drop 4) = k0 at *
          obtain ⟨ns, hns⟩ : ∃ ns, ns = sign.length := ⟨_, rfl⟩
          rw [← hns] at zs0 hsl
          by_cases hz : Z = 0
          · subst hz
            have HV := Lib.hid hV; have HR0 := Lib.hid hr0; have HR4 := Lib.hid hr4; have HSZ := Lib.hid hsz
            clear hV hv hr0 hr4 hsz hgood h56 hp hs hkh e0 e4 hap hsl hns h36
            go_enter Try.func46, Try.ntmps46
            go_wp2_with fail
            refine (HR0.out _).mono ?_
            rintro e w1 ⟨rfl, t1⟩
            have PT := Lib.hid t1
            clear t1
            go_wp2_with fail
            refine (HR4.out _).mono ?_
            rintro e w2 ⟨rfl, t2⟩
            have PT := Lib.hid (PT.out.pure t2)
            clear t2
            go_wp2_with fail
            refine (HSZ.out _).mono ?_
            rintro e w3 ⟨rfl, rfl⟩
            go_wp2
            go_ret
            exact ⟨by rw [HV.out]; rfl, PT.out⟩
          · have c1 : ((Z : Int) == 0) = false := by simp; omega
            have c1n : (Z == 0) = false := by simp; omega
            have c2 : ((ns : Int) != (Z : Int)) = true := by simp; omega
            have c2n : (ns != Z) = true := by simp; omega
            have HV := Lib.hid hV; have HR0 := Lib.hid hr0; have HR4 := Lib.hid hr4; have HSZ := Lib.hid hsz
            clear hV hv hr0 hr4 hsz hgood h56 hp hs hkh e0 e4 hap hsl hns h36 hz
            go_enter Try.func46, Try.ntmps46
            go_wp2_with fail
            refine (HR0.out _).mono ?_
            rintro e w1 ⟨rfl, t1⟩
            have PT := Lib.hid t1
            clear t1
            go_wp2_with fail
            refine (HR4.out _).mono ?_
            rintro e w2 ⟨rfl, t2⟩
            have PT := Lib.hid (PT.out.pure t2)
            clear t2
            go_wp2_with fail
            refine (HSZ.out _).mono ?_
            rintro e w3 ⟨rfl, rfl⟩
            go_wp2
            go_ret
            exact ⟨by rw [HV.out]; rfl, PT.out⟩
        case pos =>
          have hml : ¬ msg.length ≤ 65536 := fun h => hgood ⟨h56, hkh.1, hkh.2, hsl, h⟩
          have hV : V = 500 := by rw [hv, if_neg (fun h => hml h.2)]
          have h36 : 36 ≤ otsSize (n4 (pub.drop 4)) := by rw [otsSize]; omega
          generalize 8 + otsSize (n4 (pub.drop 4)) + 32 * hgtV (n4 pub) = Z at *
          generalize n4 pub = t0 at *
          generalize n4 (pub.drop 4) = k0 at *
          obtain ⟨ns, hns⟩ : ∃ ns, ns = sign.length := ⟨_, rfl⟩
          rw [← hns] at zs0 hsl
          subst hsl
          obtain ⟨n, hn⟩ : ∃ n, n = msg.length := ⟨_, rfl⟩
          rw [← hn] at zm0 hml
          have c3 : decide ((65536 : Int) < n) = true := decide_eq_true (by omega)
          have c3n : decide (65536 < n) = true := decide_eq_true (by omega)
          have c2 : ((ns : Int) != (ns : Int)) = false := by simp
          by_cases hz : ns = 0
          · have c1 : ((ns : Int) == 0) = true := by simp; omega
            have c1n : (ns == 0) = true := by simp; omega
            have HV := Lib.hid hV; have HR0 := Lib.hid hr0; have HR4 := Lib.hid hr4; have HSZ := Lib.hid hsz
            clear hV hv hr0 hr4 hsz hgood h56 hp hs hkh e0 e4 hap hns h36 hz hml hn
            go_enter Try.func46, Try.ntmps46
            go_wp2_with fail
            refine (HR0.out _).mono ?_
            rintro e w1 ⟨rfl, t1⟩
            have PT := Lib.hid t1
            clear t1
            go_wp2_with fail
            refine (HR4.out _).mono ?_
            rintro e w2 ⟨rfl, t2⟩
            have PT := Lib.hid (PT.out.pure t2)
            clear t2
            go_wp2_with fail
            refine (HSZ.out _).mono ?_
            rintro e w3 ⟨rfl, rfl⟩
            go_wp2
            go_ret
            exact ⟨by rw [HV.out]; rfl, PT.out⟩
          · have c1 : ((ns : Int) == 0) = false := by simp; omega
            have c1n : (ns == 0) = false := by simp; omega
            have HV := Lib.hid hV; have HR0 := Lib.hid hr0; have HR4 := Lib.hid hr4; have HSZ := Lib.hid hsz
            clear hV hv hr0 hr4 hsz hgood h56 hp hs hkh e0 e4 hap hns h36 hz hml hn
            go_enter Try.func46, Try.ntmps46
            go_wp2_with fail
            refine (HR0.out _).mono ?_
            rintro e w1 ⟨rfl, t1⟩
            have PT := Lib.hid t1
            clear t1
            go_wp2_with fail
            refine (HR4.out _).mono ?_
            rintro e w2 ⟨rfl, t2⟩
            have PT := Lib.hid (PT.out.pure t2)
            clear t2
            go_wp2_with fail
            refine (HSZ.out _).mono ?_
            rintro e w3 ⟨rfl, rfl⟩
            go_wp2
            go_ret
            exact ⟨by rw [HV.out]; rfl, PT.out⟩

theorem numB_be4 {x : Nat} (h : x < 4294967296) : numB (beB x 4) = x := by
  simp only [beB, numB, List.foldl_cons, List.foldl_nil, UInt8.toNat_ofNat', Nat.shiftRight_eq_div_pow]
  simp only [Nat.reduceMul, Nat.reducePow]
  omega
theorem n4_be {x : Nat} (h : x < 4294967296) (t : List UInt8) : n4 (beB x 4 ++ t) = x := by
  rw [n4, List.take_append_of_le_length (by rw [beB_length]; exact Nat.le_refl _), List.take_of_length_le (by rw [beB_length]; exact Nat.le_refl _), numB_be4 h]
theorem drop_be (x : Nat) (t : List UInt8) (k : Nat) : (beB x 4 ++ t).drop (4 + k) = t.drop k := by
  have h4 : (beB x 4).length = 4 := beB_length _ _
  have : ∀ l : List UInt8, l.length = 4 → (l ++ t).drop (4 + k) = t.drop k := fun l hl => by
    rw [← hl, List.drop_length_add_append]
  exact this _ h4
theorem hgt_type {h t : Nat} (h1 : 1 ≤ h) (h5 : h ≤ 5) (ht : typeV (h : Int) = (t : Int)) : hgtV (t : Int) = h := by
  rw [← ht]; exact hgtV_typeV h h1 h5
/-- A public key is taken apart. -/
theorem apart_public {h o t : Nat} (h1 : 1 ≤ h) (h5 : h ≤ 5) (ho : o = 3 ∨ o = 4) (ht : typeV (h : Int) = (t : Int)) (ht2 : t < 4294967296) {id root : List UInt8} (hid : id.length = 16) (hr : root.length = 32) :
    apartV (beB t 4 ++ beB o 4 ++ id ++ root) = (⟨h, (o : Int), id, root⟩, true) := by
  have e1 : beB t 4 ++ beB o 4 ++ id ++ root = beB t 4 ++ (beB o 4 ++ (id ++ root)) := by simp
  have hl : (beB t 4 ++ (beB o 4 ++ (id ++ root))).length = 56 := by simp [beB_length, hid, hr]
  have d4 : (beB t 4 ++ (beB o 4 ++ (id ++ root))).drop 4 = beB o 4 ++ (id ++ root) := by have := drop_be t (beB o 4 ++ (id ++ root)) 0; simpa using this
  have d8 : (beB t 4 ++ (beB o 4 ++ (id ++ root))).drop 8 = id ++ root := by
    rw [show 8 = 4 + 4 from rfl, drop_be]; have := drop_be o (id ++ root) 0; simpa using this
  have d24 : (beB t 4 ++ (beB o 4 ++ (id ++ root))).drop 24 = root := by
    rw [show 24 = 8 + 16 from rfl, ← List.drop_drop, d8, List.drop_append_of_le_length (by omega), List.drop_of_length_le (by omega), List.nil_append]
  have hk : kindB (o : Int) = true := by rcases ho with rfl | rfl <;> rfl
  rw [e1, apartV, if_pos hl, d4, d8, d24, n4_be ht2, n4_be (by omega), hgt_type h1 h5 ht, hk, List.take_append_of_le_length (by omega), List.take_of_length_le (by omega), decide_eq_true (by omega)]
  rfl
theorem otsSign_length (kind w p ls : Nat) (head seed msg : List UInt8) : (otsSignV kind w p ls head seed msg).length = 36 + 32 * p := by
  simp only [otsSignV, List.length_append, beB_length]
  rw [chainsV_length _ _ _ _ _ fun i _ => startV_length _ _ _, show (otsCV head seed).length = 32 from shaV_length _]
/-- A signature is taken apart. -/
theorem parts_signature {h o t q : Nat} (ho : o = 3 ∨ o = 4) (ht : typeV (h : Int) = (t : Int)) (ht2 : t < 4294967296) (hq : q < 2 ^ h) (hq2 : q < 4294967296) {id root sg path : List UInt8} (hs : sg.length = otsSize (o : Int)) (hk : n4 sg = o) (hp : path.length = 32 * h) :
    partsV ⟨h, (o : Int), id, root⟩ (beB q 4 ++ sg ++ beB t 4 ++ path) = (⟨q, sg, path⟩, true) := by
  have hkb : kindB (o : Int) = true := by rcases ho with rfl | rfl <;> rfl
  have h36 : 36 ≤ otsSize (o : Int) := by rw [otsSize]; omega
  have e1 : beB q 4 ++ sg ++ beB t 4 ++ path = beB q 4 ++ (sg ++ (beB t 4 ++ path)) := by simp
  have hl : (beB q 4 ++ (sg ++ (beB t 4 ++ path))).length = pkSize ⟨h, (o : Int), id, root⟩ := by
    show _ = 8 + otsSize (o : Int) + 32 * h
    simp [beB_length, hs, hp]; omega
  have d4 : (beB q 4 ++ (sg ++ (beB t 4 ++ path))).drop 4 = sg ++ (beB t 4 ++ path) := by have := drop_be q (sg ++ (beB t 4 ++ path)) 0; simpa using this
  have dn : (beB q 4 ++ (sg ++ (beB t 4 ++ path))).drop (4 + otsSize (o : Int)) = beB t 4 ++ path := by
    rw [drop_be, ← hs, List.drop_append_of_le_length (Nat.le_refl _), List.drop_of_length_le (Nat.le_refl _), List.nil_append]
  have d8 : (beB q 4 ++ (sg ++ (beB t 4 ++ path))).drop (8 + otsSize (o : Int)) = path := by
    rw [show 8 + otsSize (o : Int) = 4 + otsSize (o : Int) + 4 by omega, ← List.drop_drop, dn]; have := drop_be t path 0; simpa using this
  have tk : (sg ++ (beB t 4 ++ path)).take (otsSize (o : Int)) = sg := by rw [← hs, List.take_append_of_le_length (Nat.le_refl _), List.take_length]
  have n4s : n4 (sg ++ (beB t 4 ++ path)) = o := by
    rw [← hk]; unfold n4; rw [List.take_append_of_le_length (by omega)]
  have h2 := parts_ref (k := ⟨h, (o : Int), id, root⟩) (s := beB q 4 ++ (sg ++ (beB t 4 ++ path))) hkb hl
  simp only at h2
  rw [d4, n4s, dn, n4_be ht2, n4_be hq2, ht] at h2
  rw [e1]
  apply Prod.ext
  · rw [partsV, if_pos hl]
    simp only
    rw [n4_be hq2, d4, tk, d8]
  · rw [h2]; simp [hq]
theorem sideV_at (N : Nat → List UInt8) (hN : ∀ i, (N i).length = 32) (r : Nat) : ∀ (j i : Nat) (rest : List UInt8), i < j → (((sideV N r j) ++ rest).drop (32 * i)).take 32 = N ((r / 2 ^ i) ^^^ 1)
  | 0, _, _, h => by omega
  | j + 1, i, rest, h => by
    have hl := sideV_length hN r j
    have hs := hN ((r / 2 ^ j) ^^^ 1)
    simp only [sideV, List.append_assoc]
    by_cases he : i = j
    · subst he
      rw [List.drop_append_of_le_length (by omega), List.drop_of_length_le (by omega), List.nil_append, List.take_append_of_le_length (by omega), List.take_of_length_le (by omega)]
    · exact sideV_at N hN r j i _ (by omega)
/-- The climb follows the nodes. -/
theorem climb_nodes (id : List UInt8) (pub : Nat → List UInt8) {m h r : Nat} (hw : WayUp r h (2 * m)) : ∀ i, i ≤ h → climbV id (sideV (nodeN id pub m) r h) r (nodeN id pub m r) i = nodeN id pub m (r / 2 ^ i)
  | 0, _ => by rw [climbV, Nat.pow_zero, Nat.div_one]
  | i + 1, hi => by
    have hN : ∀ i, (nodeN id pub m i).length = 32 := fun i => nodeN_length _ _ _ _
    have hs := sideV_at (nodeN id pub m) hN r h i [] (by omega)
    rw [List.append_nil] at hs
    obtain ⟨h1, h2⟩ := hw.low i (by omega)
    have hb := hw.big
    have hx := xor1_lt (r := r / 2 ^ i) (by omega)
    have hd : r / 2 ^ (i + 1) = r / 2 ^ i / 2 := by rw [Nat.div_div_eq_div_mul, Nat.pow_succ]
    rw [climbV, hs, climb_nodes id pub hw i (by omega), hd, hx]
    generalize r / 2 ^ i = s at *
    rw [nodeN_in (r := s / 2) (by omega) (by omega)]
    by_cases he : s % 2 = 0
    · rw [if_pos he, if_pos he, show 2 * (s / 2) = s by omega]
    · rw [if_neg he, if_neg he, show 2 * (s / 2) = s - 1 by omega, show s - 1 + 1 = s by omega]
theorem otsSize_le (o : Int) : 36 ≤ otsSize o ∧ otsSize o ≤ 2180 := by have := parV_le o; rw [otsSize]; omega
/-- What a key signs with its leaf q, asked of any message. -/
theorem verify_signed {k : LKey} (hB : lmayB k = true) {q h : Nat} (hh : k.height = (h : Int)) (hq : k.next = (q : Int)) (hlt : q < 2 ^ h) {msg x : List UInt8} (hm : msg.length ≤ 65536) (hx : x.length ≤ 65536) :
    verifyV (lpubV k).1 x (lsignV k msg).1 = if climbV k.id (sideV (nodeN k.id (pubF k) (2 ^ h)) (2 ^ h + q) h) (2 ^ h + q) (tipV k.id (2 ^ h + q) (candV k.id q x (signV k.ots k.id q k.seed msg).1).1) h = nodeN k.id (pubF k) (2 ^ h) 1 then 0 else 502 := by
  obtain ⟨o, h', q', ho, ho2, hh', h1, h5, hid, hseed, hq', hqm⟩ := lmay_parts hB
  obtain rfl : h' = h := by omega
  obtain rfl : q' = q := by omega
  obtain ⟨t, htv, ht2⟩ := typeV_nat h' h5
  have h32 : 2 ^ h' ≤ 32 := by rcases (by omega : h' = 1 ∨ h' = 2 ∨ h' = 3 ∨ h' = 4 ∨ h' = 5) with rfl | rfl | rfl | rfl | rfl <;> decide
  have hkb : kindB (o : Int) = true := by rcases ho2 with rfl | rfl <;> rfl
  have hpb : placeB k.id (q' : Int) = true := decide_eq_true ⟨hid, by omega⟩
  have hsv : (signV k.ots k.id q' k.seed msg).1 = otsSignV o (parV (o : Int)).1 (parV (o : Int)).2.1 (parV (o : Int)).2.2 (placeV k.id q') k.seed msg := by
    rw [signV, ho, if_pos ⟨hkb, hpb, hseed, hm⟩]; rfl
  have hsl : (signV k.ots k.id q' k.seed msg).1.length = otsSize (o : Int) := by rw [hsv, otsSign_length]; rfl
  have hs4 : n4 (signV k.ots k.id q' k.seed msg).1 = o := by
    rw [hsv, otsSignV, List.append_assoc]; exact n4_be (by omega) _
  have hpub : (lpubV k).1 = beB t 4 ++ beB o 4 ++ k.id ++ nodeN k.id (pubF k) (2 ^ h') 1 := by
    rw [lpubV, if_pos hB, hh, htv, ho]; rfl
  have hsg : (lsignV k msg).1 = beB q' 4 ++ (signV k.ots k.id q' k.seed msg).1 ++ beB t 4 ++ sideV (nodeN k.id (pubF k) (2 ^ h')) (2 ^ h' + q') h' := by
    have hne : ¬ ((q' : Int) = ((2 ^ h' : Nat) : Int)) := by omega
    rw [lsignV, if_pos ⟨hB, hm⟩, hq, hh, Int.toNat_natCast, if_neg hne, htv]; rfl
  have hN : ∀ i, (nodeN k.id (pubF k) (2 ^ h') i).length = 32 := fun i => nodeN_length _ _ _ _
  rw [verifyV, hpub, hsg, apart_public h1 h5 ho2 htv ht2 hid (hN 1), if_pos rfl]
  simp only
  rw [parts_signature ho2 htv ht2 hlt (by omega) hsl hs4 (sideV_length hN _ _), if_pos ⟨rfl, hx⟩]
theorem cand_signed {k : LKey} (hB : lmayB k = true) {q : Nat} (hq4 : q ≤ 4294967295) {msg : List UInt8} (hm : msg.length ≤ 65536) : (candV k.id q msg (signV k.ots k.id q k.seed msg).1).1 = pubF k q := by
  obtain ⟨o, h', q', ho, ho2, hh', h1, h5, hid, hseed, hq', hqm⟩ := lmay_parts hB
  have hkb : kindB (o : Int) = true := by rcases ho2 with rfl | rfl <;> rfl
  have hpb : placeB k.id (q : Int) = true := decide_eq_true ⟨hid, by omega⟩
  have hsv : (signV k.ots k.id q k.seed msg).1 = otsSignV o (parV (o : Int)).1 (parV (o : Int)).2.1 (parV (o : Int)).2.2 (placeV k.id q) k.seed msg := by
    rw [signV, ho, if_pos ⟨hkb, hpb, hseed, hm⟩]; rfl
  have hks : kindSV (otsSignV o (parV (o : Int)).1 (parV (o : Int)).2.1 (parV (o : Int)).2.2 (placeV k.id q) k.seed msg) = ((o : Int), true) := by
    have h4 : n4 (otsSignV o (parV (o : Int)).1 (parV (o : Int)).2.1 (parV (o : Int)).2.2 (placeV k.id q) k.seed msg) = o := by
      rw [otsSignV, List.append_assoc]; exact n4_be (by omega) _
    have hl := otsSign_length o (parV (o : Int)).1 (parV (o : Int)).2.1 (parV (o : Int)).2.2 (placeV k.id q) k.seed msg
    rw [kindSV, if_neg (by omega), k4V_n4 (by omega), h4, hl, hkb]; simp
  rw [hsv, candV, hks, if_pos ⟨rfl, hpb, hm⟩]
  simp only
  rw [Int.toNat_natCast, ots_back, pubF, pubV, ho, if_pos ⟨hkb, hpb, hseed⟩]
  rfl
/-- What was signed is taken. -/
theorem lms_back {k : LKey} (hB : lmayB k = true) {q h : Nat} (hh : k.height = (h : Int)) (hq : k.next = (q : Int)) (hlt : q < 2 ^ h) {msg : List UInt8} (hm : msg.length ≤ 65536) : verifyV (lpubV k).1 msg (lsignV k msg).1 = 0 := by
  obtain ⟨o, h', q', ho, ho2, hh', h1, h5, hid, hseed, hq', hqm⟩ := lmay_parts hB
  obtain rfl : h' = h := by omega
  have h32 : 2 ^ h' ≤ 32 := by rcases (by omega : h' = 1 ∨ h' = 2 ∨ h' = 3 ∨ h' = 4 ∨ h' = 5) with rfl | rfl | rfl | rfl | rfl <;> decide
  have hw := wayUp_of h1 h5 hlt
  have hleaf : tipV k.id (2 ^ h' + q) (pubF k q) = nodeN k.id (pubF k) (2 ^ h') (2 ^ h' + q) := by
    rw [nodeN_leaf (by omega), Nat.add_sub_cancel_left]
  rw [verify_signed hB hh hq hlt hm hm, cand_signed hB (by omega) hm, hleaf, climb_nodes _ _ hw h' (Nat.le_refl _), hw.top, if_pos rfl]

theorem verify_none (msg sign : List UInt8) : verifyV [] msg sign = 500 := by
  rw [verifyV, apartV, if_neg (by decide)]
theorem lpub_length {k : LKey} (hB : lmayB k = true) : (lpubV k).1.length = 56 := by
  obtain ⟨o, h', q', ho, ho2, hh', h1, h5, hid, hseed, hq', hqm⟩ := lmay_parts hB
  rw [lpubV, if_pos hB]
  simp only [List.length_append, beB_length, hid]
  rw [nodeN_length]
theorem lpub_ok {k : LKey} (hB : lmayB k = true) : (lpubV k).2 = 0 := by rw [lpubV, if_pos hB]
theorem lsign_ok {k : LKey} (hB : lmayB k = true) {q h : Nat} (hh : k.height = (h : Int)) (hq : k.next = (q : Int)) (hlt : q < 2 ^ h) {msg : List UInt8} (hm : msg.length ≤ 65536) : (lsignV k msg).2 = ({ k with next := k.next + 1 }, 0) := by
  have hne : ¬ (k.next = ((2 ^ h : Nat) : Int)) := by omega
  rw [lsignV, if_pos ⟨hB, hm⟩, hh, Int.toNat_natCast, if_neg hne]
theorem lsign_length (k : LKey) (msg : List UInt8) : (lsignV k msg).1.length ≤ 3000 := by
  have hs := signV_length k.ots k.id k.next k.seed msg
  unfold lsignV
  split
  · rename_i hB
    obtain ⟨o, h', q', ho, ho2, hh', h1, h5, hid, hseed, hq', hqm⟩ := lmay_parts hB.1
    split
    · simp
    · simp only [List.length_append, beB_length]
      rw [sideV_length (fun i => nodeN_length _ _ _ _), hh', Int.toNat_natCast]
      omega
  · simp
end Go.Proofs.Ytcfbmbhkdicpfaa
