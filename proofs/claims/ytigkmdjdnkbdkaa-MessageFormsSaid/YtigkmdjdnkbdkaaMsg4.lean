/- Chapter 22: lists are read. -/
import Derived.Test.YtigkmdjdnkbdkaaMsg3
namespace Go.Proofs.Ytigkmdjdnkbdkaa
open Go.RowKit
set_option maxRecDepth 100000

theorem Hash_lives {w : World} {v : Value} {l : List (List UInt8)} (h : Rows u8s 32 w v l) (hl : l ≠ []) {q : Nat} (hq : v.ownBlock = some q) : q < w.heap.size := by
  obtain ⟨ao, cap, rfl, h2, h3, h4⟩ := h
  obtain ⟨x, t, rfl⟩ : ∃ x t, l = x :: t := by cases l with | nil => exact absurd rfl hl | cons x t => exact ⟨x, t, rfl⟩
  obtain ⟨b, o, rfl, hr⟩ := h3 hl
  simp only [Value.ownBlock, Option.some.injEq] at hq
  subst hq
  have hx := h4 x (by simp)
  have hg : (rowOf u8s (x :: t))[0]? = some ((u8s x)[0]'(by omega)) := by
    rw [rowOf, List.flatMap_cons, List.getElem?_append_left (by omega), List.getElem?_eq_getElem (by omega)]
  exact World.block_lt_of_cell? w _ (hr 0 _ hg)
/-- Its rows lie elsewhere. -/
def Far (E : Ent) (S : Nat → Prop) : Prop := (E.p.vec ≠ [] → ∀ q, E.vecV.ownBlock = some q → ¬ S q) ∧ (E.p.tabs ≠ [] → ∀ q, E.tabV.ownBlock = some q → ¬ S q)
theorem EntAt.far {S : Nat → Prop} {w w' : World} {E : Ent} (h : EntAt w E) (t : Turn S w w') (hS : Far E S) : EntAt w' E := ⟨h.vec.turn2 t hS.1, h.tab.turn t hS.2, h.root⟩
def NewE (w0 : World) (E : Ent) : Prop := Newer w0 E.vecV ∧ Newer w0 E.tabV
theorem NewE.far {w0 : World} {E : Ent} (h : NewE w0 E) {S : Nat → Prop} (hS : ∀ q, w0.heap.size ≤ q → ¬ S q) : Far E S := ⟨fun _ q hq => hS q (h.1 q hq), fun _ q hq => hS q (h.2 q hq)⟩
theorem EntAt.farOf {w : World} {E : Ent} (h : EntAt w E) {S : Nat → Prop} (hS : ∀ q, q < w.heap.size → ¬ S q) : Far E S := ⟨fun hl q hq => hS q (h.vec.lives hl hq), fun hl q hq => hS q (Hash_lives h.tab hl hq)⟩
theorem EntsAt.turn {S : Nat → Prop} {w w' : World} {v : Value} {es : List Ent} (h : EntsAt w v es) (t : Turn S w w') (hv : ∀ q, v.ownBlock = some q → ¬ S q) (he : ∀ e ∈ es, Far e S) : EntsAt w' v es :=
  ⟨h.row.turn t fun _ q hq => hv q hq, fun e m => ⟨(h.each e m).1.far t (he e m), (h.each e m).2⟩, h.len⟩
theorem eget_bounds (s : List UInt8) : (egetV s).1.sign.length ≤ 8192 := by
  by_cases h : (egetV s).2 = 0
  · have := (eget_ok h).1
    simp only [okE, Bool.and_eq_true, decide_eq_true_eq] at this
    exact this.2
  · have e : egetV s = (EntP0, 1900) := by
      unfold egetV at h ⊢
      cases he : eparse s with
      | none => rfl
      | some e =>
        rw [he] at h
        simp only at h ⊢
        by_cases hp : (eputV e).2 = 0
        · rw [if_pos hp] at h; exact absurd rfl h
        · rw [if_neg hp]
    rw [e]
    decide

set_option maxHeartbeats 2000000 in
theorem mget2_any (w : World) (K g : Nat) (s : List UInt8) (hK : RdCell w K g) (h : IsRd 100 w g s) :
    Calls Try.prog 30 #[.pointer (some ⟨K, 0, none⟩)] w fun e w' => e = .returned (.tuple #[.string (bstr (rdText s 2).1), .int .i64 (rdText s 2).2.1]) ∧ Read 100 w w' g (rdText s 2).2.2 := by
  have k1 := hK.at
  have HR := Lib.hid h
  clear hK h
  go_enter Try.func30, Try.ntmps30
  go_wp2_with fail
  refine (RText_any _ g s 2 HR.out).mono ?_
  rintro e w1 ⟨rfl, r1⟩
  have HR := Lib.hid r1
  clear r1 k1
  go_wp2
  go_ret2
  exact ⟨rfl, HR.out⟩

set_option maxHeartbeats 4000000 in
theorem mget1_any (w : World) (K g : Nat) (s : List UInt8) (hK : RdCell w K g) (hne : K ≠ g) (h : IsRd 100 w g s) :
    Calls Try.prog 24 #[.pointer (some ⟨K, 0, none⟩)] w fun x w' => ∃ E err rest, x = .returned (.tuple #[.agg (entC E).toArray, .int .i64 err]) ∧ EntAt w' E ∧ NewE w E ∧ E.p.sign.length ≤ 8192 ∧ Read 100 w w' g rest ∧ RdCell w' K g ∧
      (∀ a, pEnt s = some a → err = 0 ∧ E.p = a.1 ∧ rest = a.2) ∧ (pEnt s = none → err ≠ 0) := by
  have hlt := h.lt
  have hpe : pEnt s = if (rdText s 2).2.1 = 0 then (if (egetV (rdText s 2).1).2 = 0 then some ((egetV (rdText s 2).1).1, (rdText s 2).2.2) else none) else none := by
    rw [pEnt, pText]
    split
    · rw [Option.bind_some]
    · rfl
  have hkl : K < w.heap.size := (Array.getElem?_eq_some_iff.1 hK).1
  have hzE := zeroE
  obtain ⟨Z0, hZ0⟩ : ∃ Z0, Z0 = entC Ent0 := ⟨_, rfl⟩
  have hZl : Z0.length = 37 := by rw [hZ0]; rfl
  rw [← hZ0] at hzE
  have HZE := Lib.hid hzE
  have htl := rdText_le s 2
  have hrl := h.len
  obtain ⟨t, er, r, htr⟩ : ∃ t er r, rdText s 2 = (t, er, r) := ⟨_, _, _, rfl⟩
  rw [htr] at hpe htl
  simp only at hpe htl
  have HPE := Lib.hid hpe
  have HTX := Lib.hid (fun W (O : IsRd 100 W g s) => by have := RText_any W g s 2 O; rwa [htr] at this)
  have HR := Lib.hid h; have HK := Lib.hid hK
  clear hpe hK h hzE hZ0 htr
  go_enter Try.func24, Try.ntmps24
  go_wp2_with (refine wpList_allocZ rfl 47 rfl _ HZE.out ?_)
  intro g1 w1 e1 c1 t1 s1
  have l1 : w.heap.size ≤ g1 := by omega
  have D1 := Lib.hid c1; have PT := Lib.hid t1; have HK : Hid (RdCell w1 K g) := Lib.hid (t1.obj HK.out (fun e => e))
  have HR := Lib.hid (HR.out.turn t1 (fun e => e))
  have kc := HK.out.at
  clear c1 e1 s1 t1
  go_wp2_with fail
  refine (HTX.out _ HR.out).mono ?_
  rintro x w2 ⟨rfl, r2⟩
  have hn1 : g1 ≠ g := by omega
  have D1 := Lib.hid (r2.turn.obj D1.out hn1); have HK : Hid (RdCell w2 K g) := Lib.hid (r2.turn.obj HK.out hne)
  have HR : Hid (Read 100 w w2 g r) := Lib.hid ⟨r2.rd, (PT.out.mono (S' := fun k => k = g) (fun _ _ e => e.elim)).trans r2.turn fun _ _ e => e⟩
  clear r2 kc PT
  by_cases h0 : er = 0
  · subst h0
    have HPE : Hid (pEnt s = if (egetV t).2 = 0 then some ((egetV t).1, r) else none) := Lib.hid (by rw [HPE.out, if_pos rfl])
    go_wp2_with fail
    refine (eget_any _ t (by omega)).mono ?_
    rintro x w3 ⟨E, rfl, hEp, hEa, hEn, t3⟩
    have hEl := entC_length hEa.root
    have hEo := entC_one hEa
    have hsg := eget_bounds t
    rw [← hEp] at hsg
    have hEnw : NewE w2 E := hEn
    have hg12 : g1 < w2.heap.size := (Array.getElem?_eq_some_iff.1 D1.out).1
    have D1 := Lib.hid (t3.obj D1.out (fun e => e)); have HK : Hid (RdCell w3 K g) := Lib.hid (t3.obj HK.out (fun e => e))
    have hw2 := HR.out.turn.size
    have HR : Hid (Read 100 w w3 g r) := Lib.hid ⟨HR.out.rd.turn t3 (fun e => e), HR.out.turn.pure t3⟩
    have HEA := Lib.hid hEa; have HEN := Lib.hid hEnw; have HEP := Lib.hid hEp
    obtain ⟨C, hC⟩ : ∃ C, C = entC E := ⟨_, rfl⟩
    rw [← hC] at hEl hEo ⊢
    have HC := Lib.hid hC
    have hCi : (Try.prog.info? 47).map (·.size) = some C.length := by rw [infoE, hEl]
    clear hEp hEa hEn hEnw t3 hC
    generalize (egetV t).2 = er2 at *
    go_wp2_with (refine wpList_store_blk rfl 47 _ _ rfl g1 _ C _ rfl rfl D1.out (by rw [List.size_toArray, hZl, hEl]) hCi hEo ?_)
    intro w4 c4 t4 _
    have hfar : Far E (fun k => k = g1) := HEN.out.far fun q hq e => by omega
    have HAT := Lib.hid (HEA.out.far t4 hfar)
    have HR : Hid (Read 100 w w4 g r) := Lib.hid ⟨HR.out.rd.turn t4 (Ne.symm hn1), HR.out.turn.trans t4 fun q hq e => by omega⟩
    have HK : Hid (RdCell w4 K g) := Lib.hid (t4.obj HK.out (by omega))
    clear t4 hfar
    go_wp2
    refine bodyPost_ret (v := .tuple #[.agg C.toArray, .int .i64 er2]) (results_cell2 Try.results24 _ _ g1 _ C.toArray _ _ rfl c4 Try.underlying47 rfl (by rw [List.size_toArray]; exact hCi)) rfl ⟨E, er2, r, by rw [HC.out], HAT.out, ⟨HEN.out.1.mono hw2, HEN.out.2.mono hw2⟩, hsg, HR.out, HK.out, fun a ha => ?_, fun hn => ?_⟩
    · rw [HPE.out] at ha
      by_cases h9 : er2 = 0
      · rw [if_pos h9] at ha
        obtain rfl := Option.some.inj ha
        exact ⟨h9, HEP.out, rfl⟩
      · rw [if_neg h9] at ha
        cases ha
    · rw [HPE.out] at hn
      intro h9
      rw [if_pos h9] at hn
      cases hn
  · have HPE : Hid (pEnt s = none) := Lib.hid (by rw [HPE.out, if_neg h0])
    have H0 := Lib.hid h0
    have q5 : (er != 0) = true := by simpa using h0
    clear h0
    go_wp2_with (refine wpList_store_blk rfl 47 _ _ rfl g1 _ (entC Ent0) _ rfl rfl D1.out (by rw [List.size_toArray, hZl]; rfl) (by rw [infoE]; rfl) (entC_one (ent0_at w)) ?_)
    intro w4 c4 t4 _
    have HR : Hid (Read 100 w w4 g r) := Lib.hid ⟨HR.out.rd.turn t4 (Ne.symm hn1), HR.out.turn.trans t4 fun q hq e => by omega⟩
    have HK : Hid (RdCell w4 K g) := Lib.hid (t4.obj HK.out (by omega))
    clear t4
    go_wp2
    exact bodyPost_ret (v := .tuple #[.agg (entC Ent0).toArray, .int .i64 er]) (results_cell2 Try.results24 _ _ g1 _ (entC Ent0).toArray _ _ rfl c4 Try.underlying47 rfl (by rw [infoE]; rfl)) rfl ⟨Ent0, er, r, rfl, ent0_at _, ⟨newer_nil _, newer_nil _⟩, by decide, HR.out, HK.out, fun a ha => by rw [HPE.out] at ha; (cases ha), fun _ => H0.out⟩

theorem infoStr : (Try.prog.info? 9).map (fun i => (i.zero, i.size, i.bytes)) = some (some (.string ⟨#[]⟩), 1, 16) := by kernel_rfl
theorem partsS : ∃ i z, Hid (Try.prog.info? 9 = some i) ∧ i.zero = some z ∧ i.size = 1 ∧ i.bytes = 16 ∧ z.cells.size = 1 := by
  have h := infoStr
  cases hi : Try.prog.info? 9 with
  | none => rw [hi] at h; simp at h
  | some i =>
    rw [hi] at h
    simp only [Option.map_some, Option.some.injEq, Prod.mk.injEq] at h
    exact ⟨i, _, Lib.hid rfl, h.1, h.2.1, h.2.2, rfl⟩
theorem partsE : ∃ i z, Hid (Try.prog.info? 47 = some i) ∧ i.zero = some z ∧ i.size = 37 ∧ i.bytes = 112 ∧ z.cells.size = 37 := by
  have h : (Try.prog.info? 47).map (fun i => (i.zero, i.size, i.bytes)) = some (some (Value.agg (entC Ent0).toArray), 37, 112) := by kernel_rfl
  cases hi : Try.prog.info? 47 with
  | none => rw [hi] at h; simp at h
  | some i =>
    rw [hi] at h
    simp only [Option.map_some, Option.some.injEq, Prod.mk.injEq] at h
    exact ⟨i, _, Lib.hid rfl, h.1, h.2.1, h.2.2, rfl⟩
theorem pText_len {s t r : List UInt8} (h : pText s = some (t, r)) : t.length ≤ 65535 := (pText_reads.put _ _ _ h).1
theorem pMany_text_len {n : Nat} {s r : List UInt8} {l : List (List UInt8)} (h : pMany pText n s = some (l, r)) : l.length = n ∧ ∀ t ∈ l, t.length ≤ 65535 := ((pText_reads.many n).put _ _ _ h).1
theorem owns_block {w : World} {b size n : Nat} {e : TypeId} {v : Value} {xs : List Value} (h : w.ownsRow b e size v n xs) {q : Nat} (hq : v.ownBlock = some q) : q < w.heap.size := by
  rcases h.2 with ⟨hv, _⟩ | ⟨g, cap, cur, hv, _, hg, _⟩
  · rw [hv] at hq; exact absurd hq (by simp [Value.ownBlock])
  · rw [hv] at hq
    simp only [Value.ownBlock, Option.some.injEq] at hq
    subst hq
    exact (Array.getElem?_eq_some_iff.1 hg).1

def ManyT (w w' : World) (n K g : Nat) (s : List UInt8) (e : Ending) : Prop := ∃ r err l rest, e = .returned (.tuple #[r, .int .i64 err]) ∧
  Rows txtC 1 w' r l ∧ Newer w r ∧ (l.length ≤ 255 ∧ ∀ t ∈ l, t.length ≤ 65535) ∧ (∀ a, pMany pText n s = some a → l = a.1 ∧ rest = a.2) ∧ Read 100 w w' g rest ∧ RdCell w' K g
def ManyE (w w' : World) (n K g : Nat) (s : List UInt8) (e : Ending) : Prop := ∃ r err es rest, e = .returned (.tuple #[r, .int .i64 err]) ∧
  EntsAt w' r es ∧ (Newer w r ∧ ∀ e ∈ es, NewE w e) ∧ (∀ a, pMany pEnt n s = some a → es.map (·.p) = a.1 ∧ rest = a.2) ∧ Read 100 w w' g rest ∧ RdCell w' K g

set_option maxHeartbeats 4000000 in
theorem manyT_any (w : World) (n K g : Nat) (s : List UInt8) (hn : n ≤ 255) (hK : RdCell w K g) (hne : K ≠ g) (h : IsRd 100 w g s) :
    Calls Try.prog 55 #[.int .i64 (n : Int), .func (.func 30) #[] #[.pointer (some ⟨K, 0, none⟩)]] w fun e w' => ManyT w w' n K g s e := by
  have hlt := h.lt
  have hKlt : K < w.heap.size := (Array.getElem?_eq_some_iff.1 hK).1
  have HRD := Lib.hid h; have HK := Lib.hid hK
  clear h hK
  obtain ⟨iN, zN, HIN, hzN, hszN, hbyN, hzsN⟩ := partsS
  go_enter Try.func55, Try.ntmps55
  go_wp2
  go_loopw [6, 10] (fun v i wr => ∃ (j : Nat) (ao : Option Addr) (c : Nat) (l : List (List UInt8)) (rr : List UInt8), j ≤ n ∧ v = .slice ao j c ∧ i = .int .i64 (j : Int) ∧ Hid (wr.ownsRow 0 9 1 (.slice ao j c) j (rowOf txtC l)) ∧ Hid (Newer w (.slice ao j c)) ∧ Hid (Read 100 w wr g rr) ∧ Hid (RdCell wr K g) ∧ Hid (pMany pText j s = some (l, rr))) (fun _ i _ => n - (intOf i).toNat)
  case atStart => exact ⟨0, none, 0, [], s, by omega, rfl, rfl, Lib.hid (World.ownsRow_nil _ _ _ _), Lib.hid (newer_nil _), Lib.hid ⟨HRD.out, Turn.refl _ _⟩, HK, Lib.hid rfl⟩
  case round =>
    obtain ⟨j, ao, c, l, rr, hj, rfl, rfl, HO, HLO, HR, HK, HPM⟩ := hrel
    by_cases hlt2 : j < n
    · have q1 : (j : Int) < n := by omega
      have i3 : IntKind.i64.wrap ((j : Int) + 1) = ((j + 1 : Nat) : Int) := by rw [IntWalk.i64_in _ (by omega)]; omega
      have I3 := Lib.hid i3; clear i3
      go_wp2_with fail
      refine (mget2_any _ K g _ HK.out HR.out.rd).mono ?_
      rintro e w5 ⟨rfl, r5⟩
      have HO := Lib.hid (r5.turn.own HO.out (fun q hq e => by have := HLO.out q hq; omega)); have HK : Hid (RdCell w5 K g) := Lib.hid (r5.turn.obj HK.out hne); have HR := Lib.hid (HR.out.trans r5)
      clear r5
      have hpt : pText rr = if (rdText rr 2).2.1 = 0 then some ((rdText rr 2).1, (rdText rr 2).2.2) else none := rfl
      have hsn : pMany pText (j + 1) s = (pText rr).map fun b => (l ++ [b.1], b.2) := by rw [pMany_snoc, HPM.out]; rfl
      obtain ⟨x, er, r2, hxr⟩ : ∃ x er r2, rdText rr 2 = (x, er, r2) := ⟨_, _, _, rfl⟩
      rw [hxr] at HR hpt ⊢
      by_cases h0 : er = 0
      · subst h0
        have hpm : pMany pText (j + 1) s = some (l ++ [x], r2) := by rw [hsn, hpt, if_pos rfl]; rfl
        have hnx : rowOf txtC l ++ [.string (bstr x)] = rowOf txtC (l ++ [x]) := by rw [rowOf_app]; rfl
        have HNX := Lib.hid hnx; have HPM := Lib.hid hpm
        clear hpt hsn hxr hpm hnx
        have hA : Pure w5 (w5.alloc (.cells #[.string (bstr x)] 9)) := (Turn.refl _ _).alloc _
        have hs8 : Src Try.prog 1 24 (.slice (some ⟨w5.heap.size, 0, none⟩) 1 1) 1 [.string (bstr x)] (w5.alloc (.cells #[.string (bstr x)] 9)) :=
          Src.ofSlice _ Try.underlying24 _ _ _ _ rfl (fun q u hu => by rw [Addr.add_mid]; exact range_of_row (l := [.string (bstr x)]) (heap_alloc_new w5 _) q u hu) (fun v hv => by rcases List.mem_singleton.1 hv with rfl; rfl)
        have HO8 := Lib.hid (hA.own HO.out (fun _ _ e => e)); have HK8 : Hid (RdCell (w5.alloc (.cells #[.string (bstr x)] 9)) K g) := Lib.hid (hA.obj HK.out (fun e => e)); have HR8 : Hid (Read 100 w (w5.alloc (.cells #[.string (bstr x)] 9)) g r2) := Lib.hid ⟨HR.out.rd.turn hA (fun e => e), HR.out.turn.pure hA⟩; have HS8 := Lib.hid hs8
        have hwz := HR.out.turn.size
        clear hA hs8 HO HK HR
        go_wp2_with (at_builtin; refine wpList_append_turn _ rfl _ _ 24 24 9 rfl iN _ 1 16 Try.underlying24 HIN.out hzN hszN hbyN hzsN _ _ _ rfl HO8.out _ rfl 1 _ HS8.out (by omega) (by omega) ?_)
        intro ao9 c9 w9 o9 t9 b9
        rw [HNX.out] at o9
        have HLO9 : Hid (Newer w (.slice ao9 (j + 1) c9)) := Lib.hid fun q hq => by
          rcases b9.out with e | e
          · exact HLO.out q (e ▸ hq)
          · have := Option.some.inj (e.symm.trans hq)
            have hsz : (w5.alloc (.cells #[.string (bstr x)] 9)).heap.size = w5.heap.size + 1 := by simp
            omega
        have HR9 : Hid (Read 100 w w9 g r2) := Lib.hid ⟨HR8.out.rd.turn t9 (fun e => by have := HLO.out g e; omega), HR8.out.turn.trans t9 fun q hq e => by have := HLO.out q e; omega⟩
        have HK9 : Hid (RdCell w9 K g) := Lib.hid (t9.obj HK8.out (fun e => by have := HLO.out K e; omega))
        have HO9 := Lib.hid o9
        have i3 := I3.out
        clear o9 t9 b9 HO8 HK8 HR8 HS8
        go_wp2
        exact ⟨⟨j + 1, ao9, c9, l ++ [x], r2, by omega, rfl, by first | rfl | trivial | go_num, HO9, HLO9, HR9, HK9, HPM⟩, by simp [intOf]; omega⟩
      · have hno : pMany pText n s = none := pMany_none pText (j := j + 1) (by rw [hsn, hpt, if_neg h0]; rfl) n (by omega)
        have HNO := Lib.hid hno
        have q5 : (er != 0) = true := by simpa using h0
        clear hpt hsn hxr hno h0 HO HLO
        go_wp2
        go_ret2
        unfold ManyT
        exact ⟨_, _, [], _, rfl, rows_nil _ _ _, newer_nil _, ⟨by decide, fun _ h => by simp at h⟩, fun a ha => (by rw [HNO.out] at ha; exact absurd ha (by simp)), HR.out, HK.out⟩
    · obtain rfl : j = n := by omega
      have q1 : ¬ ((j : Int) < j) := by omega
      have hll := pMany_text_len HPM.out
      have HROW := Lib.hid (Rows.own (size := 1) (cells := txtC) (xs := l) (by decide) HO.out (fun _ _ => rfl))
      have HLL := Lib.hid hll
      clear hll
      go_wp2
      go_ret2
      have hfin : ∀ a, pMany pText j s = some a → l = a.1 ∧ rr = a.2 := fun a ha => by rw [HPM.out] at ha; injection ha with ha; subst ha; exact ⟨rfl, rfl⟩
      unfold ManyT
      exact ⟨_, _, l, rr, rfl, HROW.out, HLO.out, ⟨by rw [HLL.out.1]; exact hn, HLL.out.2⟩, hfin, HR.out, HK.out⟩

set_option maxHeartbeats 8000000 in
theorem manyE_any (w : World) (n K g : Nat) (s : List UInt8) (hn : n ≤ 255) (hK : RdCell w K g) (hne : K ≠ g) (h : IsRd 100 w g s) :
    Calls Try.prog 51 #[.int .i64 (n : Int), .func (.func 24) #[] #[.pointer (some ⟨K, 0, none⟩)]] w fun e w' => ManyE w w' n K g s e := by
  have hlt := h.lt
  have hKlt : K < w.heap.size := (Array.getElem?_eq_some_iff.1 hK).1
  have HRD := Lib.hid h; have HK := Lib.hid hK
  clear h hK
  obtain ⟨iN, zN, HIN, hzN, hszN, hbyN, hzsN⟩ := partsE
  have hzE := zeroE
  obtain ⟨Z0, hZ0⟩ : ∃ Z0, Z0 = entC Ent0 := ⟨_, rfl⟩
  have hZl : Z0.length = 37 := by rw [hZ0]; rfl
  rw [← hZ0] at hzE
  have HZE := Lib.hid hzE
  clear hzE hZ0
  go_enter Try.func51, Try.ntmps51
  go_wp2
  go_loopw [6, 10] (fun v i wr => ∃ (j : Nat) (ao : Option Addr) (c : Nat) (l : List Ent) (rr : List UInt8), j ≤ n ∧ v = .slice ao j c ∧ i = .int .i64 (j : Int) ∧ Hid (wr.ownsRow 0 47 37 (.slice ao j c) j (rowOf entC l)) ∧ Hid (Newer w (.slice ao j c)) ∧ Hid (Read 100 w wr g rr) ∧ Hid (RdCell wr K g) ∧ Hid (pMany pEnt j s = some (l.map (·.p), rr)) ∧
    Hid (∀ e ∈ l, (EntAt wr e ∧ e.p.sign.length ≤ 8192) ∧ NewE w e ∧ Far e (fun k => (Value.slice ao j c).ownBlock = some k))) (fun _ i _ => n - (intOf i).toNat)
  case atStart => exact ⟨0, none, 0, [], s, by omega, rfl, rfl, Lib.hid (World.ownsRow_nil _ _ _ _), Lib.hid (newer_nil _), Lib.hid ⟨HRD.out, Turn.refl _ _⟩, HK, Lib.hid rfl, Lib.hid fun e h => by simp at h⟩
  case round =>
    obtain ⟨j, ao, c, l, rr, hj, rfl, rfl, HO, HLO, HR, HK, HPM, HES⟩ := hrel
    by_cases hlt2 : j < n
    · have q1 : (j : Int) < n := by omega
      have i3 : IntKind.i64.wrap ((j : Int) + 1) = ((j + 1 : Nat) : Int) := by rw [IntWalk.i64_in _ (by omega)]; omega
      have I3 := Lib.hid i3; clear i3
      go_wp2_with fail
      refine (mget1_any _ K g _ HK.out hne HR.out.rd).mono ?_
      rintro e w5 ⟨E, er, r2, rfl, hEa, hEn, hEs, r5, hK5, hsome, hnone⟩
      have hwr := HR.out.turn.size
      have hob := fun q hq => owns_block HO.out (q := q) hq
      have HO := Lib.hid (r5.turn.own HO.out (fun q hq e => by have := HLO.out q hq; omega)); have HK := Lib.hid hK5
      have hES : ∀ e ∈ l, (EntAt w5 e ∧ e.p.sign.length ≤ 8192) ∧ NewE w e ∧ Far e (fun k => (Value.slice ao j c).ownBlock = some k) := fun e he => by
        obtain ⟨⟨a1, a2⟩, a3, a4⟩ := HES.out e he
        exact ⟨⟨a1.far r5.turn (a3.far fun q hq e => by omega), a2⟩, a3, a4⟩
      have HR := Lib.hid (HR.out.trans r5)
      have hEf : Far E (fun k => (Value.slice ao j c).ownBlock = some k) := hEn.far fun q hq e => by have := hob q e; omega
      have hEn2 : NewE w E := ⟨hEn.1.mono hwr, hEn.2.mono hwr⟩
      have hsn : pMany pEnt (j + 1) s = (pEnt rr).map fun b => (l.map (·.p) ++ [b.1], b.2) := by rw [pMany_snoc, HPM.out]; rfl
      clear r5 hK5 hob HES hEn
      by_cases h0 : er = 0
      · subst h0
        obtain ⟨a, ha⟩ : ∃ a, pEnt rr = some a := by
          cases hp : pEnt rr with
          | none => exact absurd rfl (hnone hp)
          | some a => exact ⟨a, rfl⟩
        obtain ⟨_, hp2, hp3⟩ := hsome a ha
        have hpm : pMany pEnt (j + 1) s = some ((l ++ [E]).map (·.p), r2) := by rw [hsn, ha, List.map_append, List.map_singleton, hp2, hp3]; rfl
        have hEl := entC_length hEa.root
        have hEo := entC_one hEa
        have HPM := Lib.hid hpm; have HEA := Lib.hid hEa; have HEF := Lib.hid hEf; have HEN := Lib.hid hEn2; have HES := Lib.hid hES
        have hnx : rowOf entC l ++ entC E = rowOf entC (l ++ [E]) := by rw [rowOf_app]; simp [rowOf]
        obtain ⟨C, hC⟩ : ∃ C, C = entC E := ⟨_, rfl⟩
        rw [← hC] at hEl hEo hnx ⊢
        have HNX := Lib.hid hnx
        have hCi : (Try.prog.info? 47).map (·.size) = some C.length := by rw [infoE, hEl]
        clear hsn ha hp2 hp3 hpm hEa hEf hEn2 hES hC hnx hsome hnone
        go_wp2_with (refine wpList_allocZ rfl 47 rfl Z0 HZE.out ?_)
        intro g7 w6 e6 c6 t6 s6
        have l7 : w5.heap.size ≤ g7 := by omega
        clear e6 s6
        go_wp2_with (refine wpList_store_blk rfl 47 _ _ rfl g7 _ C _ rfl rfl c6 (by rw [List.size_toArray, hZl, hEl]) hCi hEo ?_)
        intro w7 c7 t7 _
        have hp7 : Pure w5 w7 := t6.trans t7 fun q hq e => by omega
        have HO := Lib.hid (hp7.own HO.out (fun _ _ e => e)); have HK : Hid (RdCell w7 K g) := Lib.hid (hp7.obj HK.out (fun e => e)); have HR : Hid (Read 100 w w7 g r2) := Lib.hid ⟨HR.out.rd.turn hp7 (fun e => e), HR.out.turn.pure hp7⟩
        have HEA := Lib.hid (HEA.out.pure hp7)
        have HES := Lib.hid (fun e he => (⟨⟨(HES.out e he).1.1.pure hp7, (HES.out e he).1.2⟩, (HES.out e he).2⟩ : (EntAt w7 e ∧ e.p.sign.length ≤ 8192) ∧ NewE w e ∧ Far e (fun k => (Value.slice ao j c).ownBlock = some k)))
        have R7 := Lib.hid (range_of_row c7)
        clear c6 t6 c7 t7 hp7
        have hA : Pure w7 (w7.alloc (.cells C.toArray 47)) := (Turn.refl _ _).alloc _
        have hs8 : Src Try.prog 37 22 (.slice (some ⟨w7.heap.size, 0, none⟩) 1 1) 1 C (w7.alloc (.cells C.toArray 47)) :=
          Src.ofSlice _ Try.underlying22 _ _ _ _ (by rw [hEl]) (fun q u hu => by rw [Addr.add_mid]; exact range_of_row (heap_alloc_new w7 _) q u hu) hEo
        have HO8 := Lib.hid (hA.own HO.out (fun _ _ e => e)); have HK8 : Hid (RdCell (w7.alloc (.cells C.toArray 47)) K g) := Lib.hid (hA.obj HK.out (fun e => e)); have HR8 : Hid (Read 100 w (w7.alloc (.cells C.toArray 47)) g r2) := Lib.hid ⟨HR.out.rd.turn hA (fun e => e), HR.out.turn.pure hA⟩; have HS8 := Lib.hid hs8
        have HEA8 := Lib.hid (HEA.out.pure hA)
        have HES8 := Lib.hid (fun e he => (⟨⟨(HES.out e he).1.1.pure hA, (HES.out e he).1.2⟩, (HES.out e he).2⟩ : (EntAt (w7.alloc (.cells C.toArray 47)) e ∧ e.p.sign.length ≤ 8192) ∧ NewE w e ∧ Far e (fun k => (Value.slice ao j c).ownBlock = some k)))
        have hwz := HR.out.turn.size
        have hsz : (w7.alloc (.cells C.toArray 47)).heap.size = w7.heap.size + 1 := by simp
        clear hA hs8 HO HK HR HEA HES
        go_wp2_with (first | (refine wpList_load_mid rfl 47 _ rfl g7 0 rfl C _ R7.out Try.underlying47 rfl hCi ?_) | (refine wpList_buildSlice_one rfl 22 47 _ rfl iN _ 37 C Try.underlying22 HIN.out hzN hszN (by decide) (by decide) rfl hEl ?_) | (at_builtin; refine wpList_append_turn _ rfl _ _ 22 22 47 rfl iN _ 37 112 Try.underlying22 HIN.out hzN hszN hbyN hzsN _ _ _ rfl HO8.out _ rfl 1 _ HS8.out (by omega) (by omega) ?_))
        intro ao9 c9 w9 o9 t9 b9
        rw [HNX.out] at o9
        have HLO9 : Hid (Newer w (.slice ao9 (j + 1) c9)) := Lib.hid fun q hq => by
          rcases b9.out with e | e
          · exact HLO.out q (e ▸ hq)
          · have := Option.some.inj (e.symm.trans hq)
            omega
        have HR9 : Hid (Read 100 w w9 g r2) := Lib.hid ⟨HR8.out.rd.turn t9 (fun e => by have := HLO.out g e; omega), HR8.out.turn.trans t9 fun q hq e => by have := HLO.out q e; omega⟩
        have HK9 : Hid (RdCell w9 K g) := Lib.hid (t9.obj HK8.out (fun e => by have := HLO.out K e; omega))
        have hfar9 : ∀ e, EntAt (w7.alloc (.cells C.toArray 47)) e → Far e (fun k => (Value.slice ao j c).ownBlock = some k) → Far e (fun k => (Value.slice ao9 (j + 1) c9).ownBlock = some k) := fun e a1 a2 => by
          rcases b9.out with h | h
          · rw [h]; exact a2
          · rw [h]; exact a1.farOf fun q hq e => by have := Option.some.inj e; omega
        have HES9 : Hid (∀ e ∈ l ++ [E], (EntAt w9 e ∧ e.p.sign.length ≤ 8192) ∧ NewE w e ∧ Far e (fun k => (Value.slice ao9 (j + 1) c9).ownBlock = some k)) := Lib.hid fun e he => by
          rcases List.mem_append.1 he with he | he
          · obtain ⟨⟨a1, a2⟩, a3, a4⟩ := HES8.out e he
            exact ⟨⟨a1.far t9 a4, a2⟩, a3, hfar9 e a1 a4⟩
          · rcases List.mem_singleton.1 he with rfl
            exact ⟨⟨HEA8.out.far t9 HEF.out, hEs⟩, HEN.out, hfar9 _ HEA8.out HEF.out⟩
        have HO9 := Lib.hid o9
        have i3 := I3.out
        clear o9 t9 b9 HO8 HK8 HR8 HS8 HEA8 HES8 hfar9
        go_wp2
        exact ⟨⟨j + 1, ao9, c9, l ++ [E], r2, by omega, rfl, by first | rfl | trivial | go_num, HO9, HLO9, HR9, HK9, HPM, HES9⟩, by simp [intOf]; omega⟩
      · have hpn : pEnt rr = none := by
          cases hp : pEnt rr with
          | none => rfl
          | some a => exact absurd (hsome a hp).1 h0
        have hno : pMany pEnt n s = none := pMany_none pEnt (j := j + 1) (by rw [hsn, hpn]; rfl) n (by omega)
        have HNO := Lib.hid hno
        have q5 : (er != 0) = true := by simpa using h0
        have hEl := entC_length hEa.root
        have hEo := entC_one hEa
        obtain ⟨C, hC⟩ : ∃ C, C = entC E := ⟨_, rfl⟩
        rw [← hC] at hEl hEo ⊢
        have hCi : (Try.prog.info? 47).map (·.size) = some C.length := by rw [infoE, hEl]
        clear hsn hno h0 HO HLO hpn hsome hnone hES hEf hEn2 hEa hC
        go_wp2_with (refine wpList_allocZ rfl 47 rfl Z0 HZE.out ?_)
        intro g7 w6 e6 c6 t6 s6
        have l7 : w5.heap.size ≤ g7 := by omega
        clear e6 s6
        go_wp2_with (refine wpList_store_blk rfl 47 _ _ rfl g7 _ C _ rfl rfl c6 (by rw [List.size_toArray, hZl, hEl]) hCi hEo ?_)
        intro w7 c7 t7 _
        have hp7 : Pure w5 w7 := t6.trans t7 fun q hq e => by omega
        have HK : Hid (RdCell w7 K g) := Lib.hid (hp7.obj HK.out (fun e => e)); have HR : Hid (Read 100 w w7 g r2) := Lib.hid ⟨HR.out.rd.turn hp7 (fun e => e), HR.out.turn.pure hp7⟩
        clear c6 t6 c7 t7 hp7
        go_wp2
        go_ret2
        have hnil : EntsAt w7 (.slice none 0 0) [] := ⟨rows_nil _ _ _, fun _ h => by simp at h, by decide⟩
        unfold ManyE
        exact ⟨_, _, [], _, rfl, hnil, ⟨newer_nil _, fun _ h => by simp at h⟩, fun a ha => (by rw [HNO.out] at ha; exact absurd ha (by simp)), HR.out, HK.out⟩
    · obtain rfl : j = n := by omega
      have q1 : ¬ ((j : Int) < j) := by omega
      have hrow := Rows.own (size := 37) (cells := entC) (xs := l) (by decide) HO.out (fun e he => entC_length (HES.out e he).1.1.root)
      have hlen : l.length = j := by
        obtain ⟨_, _, hh⟩ := hrow.at
        simp only [Value.slice.injEq] at hh
        exact hh.2.1.symm
      have HROW : Hid (EntsAt wr (.slice ao j c) l) := Lib.hid ⟨hrow, fun e he => ⟨(HES.out e he).1.1, by have := (HES.out e he).1.2; omega⟩, by omega⟩
      clear hrow hlen
      go_wp2
      go_ret2
      have hfin : ∀ a, pMany pEnt j s = some a → l.map (·.p) = a.1 ∧ rr = a.2 := fun a ha => by rw [HPM.out] at ha; injection ha with ha; subst ha; exact ⟨rfl, rfl⟩
      unfold ManyE
      exact ⟨_, _, l, rr, rfl, HROW.out, ⟨HLO.out, fun e he => (HES.out e he).2.1⟩, hfin, HR.out, HK.out⟩
end Go.Proofs.Ytigkmdjdnkbdkaa
