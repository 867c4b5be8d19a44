/- Chapter 22: Get. -/
import Derived.Test.YtigkmdjdnkbdkaaMsg4
namespace Go.Proofs.Ytigkmdjdnkbdkaa
open Go.RowKit
set_option maxRecDepth 100000

theorem pList_parts {α : Type} {p : Par α} {s r1 : List UInt8} {k : Nat} (hk : (rdNum s 1).1 = (k : Int)) (hr : r1 = (rdNum s 1).2.2) {a : List α × List UInt8} (h : pList p s = some a) : pMany p k r1 = some a := by
  rw [pList, Option.bind_eq_some_iff] at h
  obtain ⟨b, hb, h2⟩ := h
  unfold pNum at hb
  split at hb
  · obtain rfl := Option.some.inj hb
    simp only [hk, Int.toNat_natCast, ← hr] at h2
    exact h2
  · cases hb
theorem pMany_hash {n : Nat} {s : List UInt8} {a : List (List UInt8) × List UInt8} (h : pMany pHash n s = some a) : 32 * n ≤ s.length ∧ hashs32 s n = a.1 ∧ s.drop (32 * n) = a.2 := by
  obtain ⟨⟨h1, h2⟩, h3⟩ := (pHash_reads.many n).put _ a.1 a.2 h
  rw [List.flatMap_id] at h3
  have hl := flat_length h2
  rw [h1] at hl
  subst h3
  refine ⟨by rw [List.length_append]; omega, ?_, ?_⟩
  · rw [← h1]; exact hashs32_flat a.1 a.2 h2
  · rw [← hl]; exact List.drop_left
def ListT (w w' : World) (K g : Nat) (s : List UInt8) (e : Ending) : Prop := ∃ r l rest, e = .returned r ∧
  Rows txtC 1 w' r l ∧ Newer w r ∧ (l.length ≤ 255 ∧ ∀ t ∈ l, t.length ≤ 65535) ∧ (∀ a, pList pText s = some a → l = a.1 ∧ rest = a.2) ∧ Read 100 w w' g rest ∧ RdCell w' K g
def ListE (w w' : World) (K g : Nat) (s : List UInt8) (e : Ending) : Prop := ∃ r es rest, e = .returned r ∧
  EntsAt w' r es ∧ (Newer w r ∧ ∀ e ∈ es, NewE w e) ∧ (∀ a, pList pEnt s = some a → es.map (·.p) = a.1 ∧ rest = a.2) ∧ Read 100 w w' g rest ∧ RdCell w' K g
def ListH (w w' : World) (g : Nat) (s : List UInt8) (e : Ending) : Prop := ∃ r l rest, e = .returned r ∧
  Rows u8s 32 w' r l ∧ Newer w r ∧ l.length ≤ 255 ∧ (∀ a, pList pHash s = some a → l = a.1 ∧ rest = a.2) ∧ Read 100 w w' g rest

set_option maxHeartbeats 4000000 in
theorem mlistT_any (w : World) (K g : Nat) (s : List UInt8) (hK : RdCell w K g) (hne : K ≠ g) (h : IsRd 100 w g s) :
    Calls Try.prog 29 #[.pointer (some ⟨g, 0, none⟩), .func (.func 30) #[] #[.pointer (some ⟨K, 0, none⟩)]] w fun e w' => ListT w w' K g s e := by
  obtain ⟨k, hk, hk255⟩ := rdNum1_nat s
  obtain ⟨r1, hr1⟩ : ∃ r, r = (rdNum s 1).2.2 := ⟨_, rfl⟩
  have hpl := fun a => pList_parts (p := pText) (a := a) hk hr1
  have hnum := RNum_any w g s 1 h
  rw [hk, ← hr1] at hnum
  have HNUM := Lib.hid hnum; have HPL := Lib.hid hpl; have HRD := Lib.hid h
  have HK := Lib.hid hK
  clear hnum hpl h hk hr1 hK
  go_enter Try.func29, Try.ntmps29
  go_wp2_with fail
  refine HNUM.out.mono ?_
  rintro e w1 ⟨rfl, r5⟩
  have hw1 := r5.turn.size
  have HR := Lib.hid r5
  have HK : Hid (RdCell w1 K g) := Lib.hid (r5.turn.obj HK.out hne)
  clear r5
  go_wp2_with fail
  refine (manyT_any w1 k K g r1 hk255 HK.out hne HR.out.rd).mono ?_
  rintro e w2 ⟨r, er, l, rest, rfl, hrow, hnw, hb, hfin, r6, hk6⟩
  have HK := Lib.hid hk6; have HROW := Lib.hid hrow; have HNW := Lib.hid hnw; have HB := Lib.hid hb; have HF := Lib.hid hfin
  clear hk6 hrow hnw hb hfin
  have HR := Lib.hid (HR.out.trans r6)
  clear r6
  go_wp2
  go_ret
  unfold ListT
  exact ⟨_, l, rest, rfl, HROW.out, HNW.out.mono hw1, HB.out, fun a ha => HF.out a (HPL.out a ha), HR.out, HK.out⟩

set_option maxHeartbeats 4000000 in
theorem mlistE_any (w : World) (K g : Nat) (s : List UInt8) (hK : RdCell w K g) (hne : K ≠ g) (h : IsRd 100 w g s) :
    Calls Try.prog 23 #[.pointer (some ⟨g, 0, none⟩), .func (.func 24) #[] #[.pointer (some ⟨K, 0, none⟩)]] w fun e w' => ListE w w' K g s e := by
  obtain ⟨k, hk, hk255⟩ := rdNum1_nat s
  obtain ⟨r1, hr1⟩ : ∃ r, r = (rdNum s 1).2.2 := ⟨_, rfl⟩
  have hpl := fun a => pList_parts (p := pEnt) (a := a) hk hr1
  have hnum := RNum_any w g s 1 h
  rw [hk, ← hr1] at hnum
  have HNUM := Lib.hid hnum; have HPL := Lib.hid hpl; have HRD := Lib.hid h
  have HK := Lib.hid hK
  clear hnum hpl h hk hr1 hK
  go_enter Try.func23, Try.ntmps23
  go_wp2_with fail
  refine HNUM.out.mono ?_
  rintro e w1 ⟨rfl, r5⟩
  have hw1 := r5.turn.size
  have HR := Lib.hid r5
  have HK : Hid (RdCell w1 K g) := Lib.hid (r5.turn.obj HK.out hne)
  clear r5
  go_wp2_with fail
  refine (manyE_any w1 k K g r1 hk255 HK.out hne HR.out.rd).mono ?_
  rintro e w2 ⟨r, er, l, rest, rfl, hrow, hnw, hfin, r6, hk6⟩
  have HK := Lib.hid hk6; have HROW := Lib.hid hrow; have HNW := Lib.hid hnw; have HF := Lib.hid hfin
  clear hk6 hrow hnw hfin
  have HR := Lib.hid (HR.out.trans r6)
  clear r6
  go_wp2
  go_ret
  unfold ListE
  exact ⟨_, l, rest, rfl, HROW.out, ⟨HNW.out.1.mono hw1, fun e he => ⟨(HNW.out.2 e he).1.mono hw1, (HNW.out.2 e he).2.mono hw1⟩⟩, fun a ha => HF.out a (HPL.out a ha), HR.out, HK.out⟩

set_option maxHeartbeats 4000000 in
theorem mlistH_any (w : World) (g : Nat) (s : List UInt8) (h : IsRd 100 w g s) :
    Calls Try.prog 27 #[.pointer (some ⟨g, 0, none⟩), .func (.func 28) #[.pointer (some ⟨g, 0, none⟩)] #[]] w fun e w' => ListH w w' g s e := by
  obtain ⟨k, hk, hk255⟩ := rdNum1_nat s
  obtain ⟨r1, hr1⟩ : ∃ r, r = (rdNum s 1).2.2 := ⟨_, rfl⟩
  have hpl := fun a => pList_parts (p := pHash) (a := a) hk hr1
  have hnum := RNum_any w g s 1 h
  rw [hk, ← hr1] at hnum
  have HNUM := Lib.hid hnum; have HPL := Lib.hid hpl; have HRD := Lib.hid h
  skip
  clear hnum hpl h hk hr1
  go_enter Try.func27, Try.ntmps27
  go_wp2_with fail
  refine HNUM.out.mono ?_
  rintro e w1 ⟨rfl, r5⟩
  have hw1 := r5.turn.size
  have HR := Lib.hid r5
  skip
  clear r5
  go_wp2_with fail
  refine (manyHash_any w1 k g r1 hk255 HR.out.rd).mono ?_
  rintro e w2 ⟨r, er, l, rest, rfl, hrow, hnw, hb, hfin, r6⟩
  have HROW := Lib.hid hrow; have HNW := Lib.hid hnw; have HB := Lib.hid hb; have HF := Lib.hid hfin
  clear hrow hnw hb hfin
  have HR := Lib.hid (HR.out.trans r6)
  clear r6
  go_wp2
  go_ret
  unfold ListH
  exact ⟨_, l, rest, rfl, HROW.out, HNW.out.mono hw1, HB.out, fun a ha => by obtain ⟨h1, h2, h3⟩ := pMany_hash (HPL.out a ha); obtain ⟨h4, h5⟩ := HF.out h1; exact ⟨h4.trans h2, h5.trans h3⟩, HR.out⟩

theorem mgetN {s : List UInt8} (h : mparse s = none) : mgetV s = (MsgP0, 2200) := by rw [mgetV, h]
def Msg0 : Msg := ⟨MsgP0, [], .slice none 0 0, .slice none 0 0, .slice none 0 0⟩
theorem zeroM : (Try.prog.info? 26).bind (·.zero) = some (.agg (msgC Msg0).toArray) := by kernel_rfl
theorem infoM : (Try.prog.info? 26).map (·.size) = some 6 := by kernel_rfl
theorem ents_nil (w : World) : EntsAt w (.slice none 0 0) [] := ⟨rows_nil _ _ _, fun _ h => by simp at h, by decide⟩
theorem msg0_at (w : World) : MsgAt w Msg0 := ⟨ents_nil w, rfl, rows_nil _ _ _, by decide, rows_nil _ _ _, by decide, fun _ h => by simp [Msg0, MsgP0] at h⟩
theorem msgC_one {w : World} {m : Msg} (h : MsgAt w m) : ∀ v ∈ msgC m, v.oneCell' = true := by
  intro v hv
  simp only [msgC, List.mem_cons, List.mem_nil_iff, or_false] at hv
  rcases hv with rfl | rfl | rfl | rfl | rfl | rfl
  · rfl
  · rfl
  · rfl
  · exact h.ents.row.one
  · exact h.wants.one
  · exact h.objs.one
/-- The blocks that it points to. -/
def Blk (m : Msg) (q : Nat) : Prop := m.entV.ownBlock = some q ∨ m.wantV.ownBlock = some q ∨ m.objV.ownBlock = some q ∨ ∃ e ∈ m.es, e.vecV.ownBlock = some q ∨ e.tabV.ownBlock = some q
theorem MsgAt.turn {S : Nat → Prop} {w w' : World} {m : Msg} (h : MsgAt w m) (t : Turn S w w') (hS : ∀ q, Blk m q → ¬ S q) : MsgAt w' m :=
  ⟨h.ents.turn t (fun q hq => hS q (.inl hq)) fun e he => ⟨fun _ q hq => hS q (.inr (.inr (.inr ⟨e, he, .inl hq⟩))), fun _ q hq => hS q (.inr (.inr (.inr ⟨e, he, .inr hq⟩)))⟩, h.same, h.wants.turn t fun _ q hq => hS q (.inr (.inl hq)), h.wlen, h.objs.turn t fun _ q hq => hS q (.inr (.inr (.inl hq))), h.olen, h.obj⟩
structure MSt (w w' : World) (g K gm gr : Nat) (r : List UInt8) (m : Msg) : Prop where
  rd : IsRd 100 w' g r
  cell : RdCell w' K g
  msg : w'.heap[gm]? = some (.cells (msgC m).toArray 26 (0, 0))
  res : w'.heap[gr]? = some (.cells (msgC Msg0).toArray 26 (0, 0))
  at' : MsgAt w' m
  out : ∀ q, Blk m q → w.heap.size ≤ q ∧ q ≠ g ∧ q ≠ K ∧ q ≠ gm ∧ q ≠ gr
  ne : g ≠ K ∧ g ≠ gm ∧ g ≠ gr ∧ K ≠ gm ∧ K ≠ gr ∧ gm ≠ gr
  lo : w.heap.size ≤ g ∧ w.heap.size ≤ K ∧ w.heap.size ≤ gm ∧ w.heap.size ≤ gr
  pure : Pure w w'
theorem MSt.read {w w1 w2 : World} {g K gm gr : Nat} {r r' : List UInt8} {m : Msg} (h : MSt w w1 g K gm gr r m) (t : Read 100 w1 w2 g r') : MSt w w2 g K gm gr r' m :=
  ⟨t.rd, t.turn.obj h.cell (Ne.symm h.ne.1), t.turn.obj h.msg (Ne.symm h.ne.2.1), t.turn.obj h.res (Ne.symm h.ne.2.2.1), h.at'.turn t.turn fun q hq => (h.out q hq).2.1, h.out, h.ne, h.lo, h.pure.trans t.turn fun q hq e => by have := h.lo.1; omega⟩
theorem MSt.next {w w1 w2 : World} {g K gm gr : Nat} {r : List UInt8} {m : Msg} (h : MSt w w1 g K gm gr r m) (t : Pure w1 w2) : MSt w w2 g K gm gr r m :=
  ⟨h.rd.turn t (fun e => e), t.obj h.cell (fun e => e), t.obj h.msg (fun e => e), t.obj h.res (fun e => e), h.at'.pure t, h.out, h.ne, h.lo, h.pure.pure t⟩
theorem MSt.set {w w1 w2 : World} {g K gm gr : Nat} {r : List UInt8} {m m' : Msg} (h : MSt w w1 g K gm gr r m) (c : w2.heap[gm]? = some (.cells (msgC m').toArray 26 (0, 0))) (t : Turn (fun k => k = gm) w1 w2)
    (hm : MsgAt w1 m') (ho : ∀ q, Blk m' q → w.heap.size ≤ q ∧ q ≠ g ∧ q ≠ K ∧ q ≠ gm ∧ q ≠ gr) : MSt w w2 g K gm gr r m' :=
  ⟨h.rd.turn t h.ne.2.1, t.obj h.cell h.ne.2.2.2.1, c, t.obj h.res (Ne.symm h.ne.2.2.2.2.2), hm.turn t fun q hq => (ho q hq).2.2.2.1, ho, h.ne, h.lo, h.pure.trans t fun q hq e => by have := h.lo.2.2.1; omega⟩
theorem MSt.fresh {w w1 : World} {g K gm gr : Nat} {r : List UInt8} {m : Msg} (h : MSt w w1 g K gm gr r m) {q : Nat} (hq : w1.heap.size ≤ q) : w.heap.size ≤ q ∧ q ≠ g ∧ q ≠ K ∧ q ≠ gm ∧ q ≠ gr := by
  have h1 := h.rd.lt
  have h2 := (Array.getElem?_eq_some_iff.1 h.cell).1
  have h3 := (Array.getElem?_eq_some_iff.1 h.msg).1
  have h4 := (Array.getElem?_eq_some_iff.1 h.res).1
  have h5 := h.pure.size
  omega
theorem mparse_read {s x r1 r2 r3 r4 r5 r6 : List UInt8} {ents : List EntP} {wants objs : List (List UInt8)} (hx : x = s.drop 2) (h1 : r1 = (rdNum x 1).2.2) (h2 : r2 = (rdNum r1 1).2.2) (h3 : r3 = (rdNum r2 2).2.2)
    (he : ∀ a, pList pEnt r3 = some a → ents = a.1 ∧ r4 = a.2) (hw : ∀ a, pList pHash r4 = some a → wants = a.1 ∧ r5 = a.2) (ho : ∀ a, pList pText r5 = some a → objs = a.1 ∧ r6 = a.2) :
    ∀ m', mparse s = some m' → (⟨(rdNum x 1).1, (rdNum r1 1).1, (rdNum r2 2).1, ents, wants, objs⟩ : MsgP) = m' := by
  intro m' h
  unfold mparse at h
  split at h
  case isFalse => cases h
  rw [Option.bind_eq_some_iff] at h
  obtain ⟨a, ha, hm⟩ := h
  rw [← hx] at ha
  simp only [pMsg, pThen, Option.bind_eq_some_iff, Option.map_eq_some_iff] at ha
  obtain ⟨b1, hb1, c1, ⟨b2, hb2, c2, ⟨b3, hb3, c3, ⟨b4, hb4, c4, ⟨b5, hb5, b6, hb6, e5⟩, e4⟩, e3⟩, e2⟩, e1⟩ := ha
  have num : ∀ n t b, pNum n t = some b → b.1 = (rdNum t n).1 ∧ b.2 = (rdNum t n).2.2 := fun n t b hb => by
    unfold pNum at hb
    split at hb
    · obtain rfl := Option.some.inj hb; exact ⟨rfl, rfl⟩
    · cases hb
  obtain ⟨u1, v1⟩ := num _ _ _ hb1
  rw [v1, ← h1] at hb2
  obtain ⟨u2, v2⟩ := num _ _ _ hb2
  rw [v2, ← h2] at hb3
  obtain ⟨u3, v3⟩ := num _ _ _ hb3
  rw [v3, ← h3] at hb4
  obtain ⟨u4, v4⟩ := he _ hb4
  rw [← v4] at hb5
  obtain ⟨u5, v5⟩ := hw _ hb5
  rw [← v5] at hb6
  obtain ⟨u6, v6⟩ := ho _ hb6
  subst e5 e4 e3 e2 e1
  simp only at hm
  split at hm
  · obtain rfl := Option.some.inj hm
    simp only [u1, u2, u3, u4, u5, u6]
  · cases hm

set_option maxHeartbeats 8000000 in
theorem mGet_any (w : World) (s : List UInt8) (hs : s.length ≤ 2305843009213693951) :
    Calls Try.prog 9 #[.string (bstr s)] w fun x w' => ∃ m : Msg, x = .returned (.tuple #[.agg (msgC m).toArray, .int .i64 (mgetV s).2]) ∧ m.p = (mgetV s).1 ∧ MsgAt w' m ∧ Pure w w' := by
  have hz := bstr_size s
  obtain ⟨Z0, hZ0⟩ : ∃ Z0, Z0 = msgC Msg0 := ⟨_, rfl⟩
  have HZ0 := Lib.hid hZ0
  have hzE := zeroM
  rw [← hZ0] at hzE
  have HZE := Lib.hid hzE
  have hZl : Z0.length = 6 := by rw [hZ0]; rfl
  clear hzE hZ0
  by_cases hl2 : s.length < 2
  case pos =>
    have HR : Hid (mgetV s = (MsgP0, 2200)) := Lib.hid (mgetN (by unfold mparse; rw [if_neg (by omega)]))
    have q1 : decide ((s.length : Int) < 2) = true := decide_eq_true (by omega)
    clear hl2
    go_enter Try.func9, Try.ntmps9
    go_wp2_with (refine wpList_allocZ rfl 26 rfl _ HZE.out ?_)
    intro g1 w1 e1 c1 t1 s1
    have l1 : w.heap.size ≤ g1 := by omega
    have hg1 : g1 < w1.heap.size := by omega
    clear e1 s1
    go_wp2_with (refine wpList_store_blk rfl 26 _ _ rfl g1 _ (msgC Msg0) _ rfl rfl c1 (by rw [List.size_toArray, hZl]; rfl) (by rw [infoM]; rfl) (msgC_one (msg0_at w)) ?_)
    intro w90 c90 t90 _
    have PT : Pure w w90 := t1.newer t90 l1
    clear t90
    go_wp2
    exact bodyPost_ret (v := .tuple #[.agg (msgC Msg0).toArray, .int .i64 2200]) (results_cell2 Try.results9 _ _ g1 _ (msgC Msg0).toArray _ _ rfl c90 Try.underlying26 rfl (by rw [infoM]; rfl)) rfl ⟨Msg0, by rw [HR.out], by rw [HR.out]; rfl, msg0_at _, PT⟩
  have q1 : decide ((s.length : Int) < 2) = false := decide_eq_false (by omega)
  by_cases hl3 : 65536 < s.length
  case pos =>
    have HR : Hid (mgetV s = (MsgP0, 2200)) := Lib.hid (mgetN (by unfold mparse; rw [if_neg (by omega)]))
    have q2 : decide ((65536 : Int) < (s.length : Int)) = true := decide_eq_true (by omega)
    clear hl2 hl3
    go_enter Try.func9, Try.ntmps9
    go_wp2_with (refine wpList_allocZ rfl 26 rfl _ HZE.out ?_)
    intro g1 w1 e1 c1 t1 s1
    have l1 : w.heap.size ≤ g1 := by omega
    have hg1 : g1 < w1.heap.size := by omega
    clear e1 s1
    go_wp2_with (refine wpList_store_blk rfl 26 _ _ rfl g1 _ (msgC Msg0) _ rfl rfl c1 (by rw [List.size_toArray, hZl]; rfl) (by rw [infoM]; rfl) (msgC_one (msg0_at w)) ?_)
    intro w90 c90 t90 _
    have PT : Pure w w90 := t1.newer t90 l1
    clear t90
    go_wp2
    exact bodyPost_ret (v := .tuple #[.agg (msgC Msg0).toArray, .int .i64 2200]) (results_cell2 Try.results9 _ _ g1 _ (msgC Msg0).toArray _ _ rfl c90 Try.underlying26 rfl (by rw [infoM]; rfl)) rfl ⟨Msg0, by rw [HR.out], by rw [HR.out]; rfl, msg0_at _, PT⟩
  have q2 : decide ((65536 : Int) < (s.length : Int)) = false := decide_eq_false (by omega)
  have hsl : 2 ≤ s.length := by omega
  obtain ⟨x, hx⟩ : ∃ x, x = s.drop 2 := ⟨_, rfl⟩
  have hxl : x.length ≤ 4611686018427387904 := by rw [hx, List.length_drop]; omega
  have HX := Lib.hid hx
  clear hx hl2 hl3
  go_enter Try.func9, Try.ntmps9
  go_wp2_with (refine wpList_allocZ rfl 26 rfl _ HZE.out ?_)
  intro g1 w1 e1 c1 t1 s1
  have l1 : w.heap.size ≤ g1 := by omega
  have hg1 : g1 < w1.heap.size := by omega
  clear e1 s1
  have D1 := Lib.hid c1; have PT := Lib.hid t1
  clear c1 t1
  go_wp2_with fail
  rw [show (bstr s).extract 2 s.length = bstr x from by rw [bstr_ext, List.take_length, HX.out]]
  refine (Open_any w1 x hxl).mono ?_
  rintro e w2 ⟨rfl, o2, p2⟩
  have hgw := o2.lt
  have lg : w.heap.size ≤ w1.heap.size := PT.out.size
  have n1g : w1.heap.size ≠ g1 := by omega
  have D1 := Lib.hid (p2.obj D1.out (fun e => e)); have HR := Lib.hid o2; have PT := Lib.hid (PT.out.pure p2)
  clear o2 p2 hg1
  generalize w1.heap.size = g at *
  have c3 := heap_alloc_new w2 (.cells #[.pointer (some ⟨g, 0, none⟩)] 59)
  have p3 : Pure w2 (w2.alloc (.cells #[.pointer (some ⟨g, 0, none⟩)] 59)) := (Turn.refl _ _).alloc _
  have hs3 : (w2.alloc (.cells #[.pointer (some ⟨g, 0, none⟩)] 59)).heap.size = w2.heap.size + 1 := by simp
  have hg1 : g1 < w2.heap.size := (Array.getElem?_eq_some_iff.1 D1.out).1
  have D1 := Lib.hid (p3.obj D1.out (fun e => e)); have HR := Lib.hid (HR.out.turn p3 (fun e => e))
  have lK : w.heap.size ≤ w2.heap.size := PT.out.size
  have PT := Lib.hid (PT.out.pure p3); have DK := Lib.hid c3
  have n2 : g ≠ w2.heap.size ∧ w2.heap.size ≠ g1 := by omega
  clear p3 c3
  go_wp2_with (refine wpList_allocZ rfl 26 rfl _ HZE.out ?_)
  intro gm w4 e4 c4 t4 s4
  generalize w2.alloc (.cells #[.pointer (some ⟨g, 0, none⟩)] 59) = w3 at *
  generalize w2.heap.size = K at *
  have G : Hid (MSt w w4 g K gm g1 x Msg0) := Lib.hid (by
    refine ⟨HR.out.turn t4 (fun e => e), t4.obj DK.out (fun e => e), by rw [c4, HZ0.out], by rw [t4.obj D1.out (fun e => e), HZ0.out], msg0_at _, ?_, ?_, ?_, PT.out.pure t4⟩
    · rintro q (h | h | h | ⟨e, he, _⟩)
      · simp [Msg0, Value.ownBlock] at h
      · simp [Msg0, Value.ownBlock] at h
      · simp [Msg0, Value.ownBlock] at h
      · simp [Msg0] at he
    · omega
    · omega)
  clear e4 c4 t4 s4 hs3 hg1 lK n2 lg l1 n1g hgw HR DK D1 PT
  have kc := G.out.cell.at
  go_wp2_with fail
  refine (RNum_any _ g x 1 G.out.rd).mono ?_
  rintro e w5 ⟨rfl, r5⟩
  have G := Lib.hid (G.out.read r5)
  clear r5 kc
  obtain ⟨k, hk⟩ : ∃ u, u = (rdNum x 1).1 := ⟨_, rfl⟩
  obtain ⟨r1, hr1⟩ : ∃ r, r = (rdNum x 1).2.2 := ⟨_, rfl⟩
  rw [← hr1] at G
  rw [← hk]
  have HK := Lib.hid hk; have HR1 := Lib.hid hr1
  clear hk hr1
  go_wp2_with (refine wpList_store_cs rfl 3 _ _ rfl gm 0 (.int .i64 k) [.int .i64 k] _ _ rfl rfl rfl G.out.msg (by simp only [msgC, List.length_cons, List.length_nil]; omega) (by kernel_rfl) (one_mem rfl) (msgC (⟨⟨k, 0, 0, [], [], []⟩, [], (.slice none 0 0), (.slice none 0 0), (.slice none 0 0)⟩ : Msg)) rfl ?_)
  intro w6 c6 t6 _
  have G : Hid (MSt w w6 g K gm g1 r1 (⟨⟨k, 0, 0, [], [], []⟩, [], (.slice none 0 0), (.slice none 0 0), (.slice none 0 0)⟩ : Msg)) := Lib.hid (G.out.set c6 t6 ⟨G.out.at'.ents, G.out.at'.same, G.out.at'.wants, G.out.at'.wlen, G.out.at'.objs, G.out.at'.olen, G.out.at'.obj⟩ G.out.out)
  clear c6 t6
  have kc := G.out.cell.at
  go_wp2_with fail
  refine (RNum_any _ g r1 1 G.out.rd).mono ?_
  rintro e w7 ⟨rfl, r7⟩
  have G := Lib.hid (G.out.read r7)
  clear r7 kc
  obtain ⟨u, hu⟩ : ∃ u, u = (rdNum r1 1).1 := ⟨_, rfl⟩
  obtain ⟨r2, hr2⟩ : ∃ r, r = (rdNum r1 1).2.2 := ⟨_, rfl⟩
  rw [← hr2] at G
  rw [← hu]
  have HU := Lib.hid hu; have HR2 := Lib.hid hr2
  clear hu hr2
  go_wp2_with (refine wpList_store_cs rfl 3 _ _ rfl gm 1 (.int .i64 u) [.int .i64 u] _ _ rfl rfl rfl G.out.msg (by simp only [msgC, List.length_cons, List.length_nil]; omega) (by kernel_rfl) (one_mem rfl) (msgC (⟨⟨k, u, 0, [], [], []⟩, [], (.slice none 0 0), (.slice none 0 0), (.slice none 0 0)⟩ : Msg)) rfl ?_)
  intro w8 c8 t8 _
  have G : Hid (MSt w w8 g K gm g1 r2 (⟨⟨k, u, 0, [], [], []⟩, [], (.slice none 0 0), (.slice none 0 0), (.slice none 0 0)⟩ : Msg)) := Lib.hid (G.out.set c8 t8 ⟨G.out.at'.ents, G.out.at'.same, G.out.at'.wants, G.out.at'.wlen, G.out.at'.objs, G.out.at'.olen, G.out.at'.obj⟩ G.out.out)
  clear c8 t8
  have kc := G.out.cell.at
  go_wp2_with fail
  refine (RNum_any _ g r2 2 G.out.rd).mono ?_
  rintro e w9 ⟨rfl, r9⟩
  have G := Lib.hid (G.out.read r9)
  clear r9 kc
  obtain ⟨f, hf⟩ : ∃ u, u = (rdNum r2 2).1 := ⟨_, rfl⟩
  obtain ⟨r3, hr3⟩ : ∃ r, r = (rdNum r2 2).2.2 := ⟨_, rfl⟩
  rw [← hr3] at G
  rw [← hf]
  have HF := Lib.hid hf; have HR3 := Lib.hid hr3
  clear hf hr3
  go_wp2_with (refine wpList_store_cs rfl 3 _ _ rfl gm 2 (.int .i64 f) [.int .i64 f] _ _ rfl rfl rfl G.out.msg (by simp only [msgC, List.length_cons, List.length_nil]; omega) (by kernel_rfl) (one_mem rfl) (msgC (⟨⟨k, u, f, [], [], []⟩, [], (.slice none 0 0), (.slice none 0 0), (.slice none 0 0)⟩ : Msg)) rfl ?_)
  intro w10 c10 t10 _
  have G : Hid (MSt w w10 g K gm g1 r3 (⟨⟨k, u, f, [], [], []⟩, [], (.slice none 0 0), (.slice none 0 0), (.slice none 0 0)⟩ : Msg)) := Lib.hid (G.out.set c10 t10 ⟨G.out.at'.ents, G.out.at'.same, G.out.at'.wants, G.out.at'.wlen, G.out.at'.objs, G.out.at'.olen, G.out.at'.obj⟩ G.out.out)
  clear c10 t10
  have kc := G.out.cell.at
  go_wp2_with fail
  refine (mlistE_any _ K g r3 G.out.cell (Ne.symm G.out.ne.1) G.out.rd).mono ?_
  rintro e w11 ⟨ev, es, r4, rfl, hea, hnw, hfin, r11, _⟩
  have hfr := fun q hq => G.out.fresh (hnw.1 q hq)
  have hfr2 := fun q (h : ∃ e ∈ es, e.vecV.ownBlock = some q ∨ e.tabV.ownBlock = some q) => (by obtain ⟨e, he, h⟩ := h; exact G.out.fresh (h.elim (fun h => (hnw.2 e he).1 q h) fun h => (hnw.2 e he).2 q h) : w.heap.size ≤ q ∧ q ≠ g ∧ q ≠ K ∧ q ≠ gm ∧ q ≠ g1)
  have G := Lib.hid (G.out.read r11)
  have HEA := Lib.hid hea; have HFR := Lib.hid hfr; have HFR2 := Lib.hid hfr2; have HFE := Lib.hid hfin
  clear r11 kc hea hnw hfr hfr2 hfin
  have HEVC : Hid (ev.cells = [ev].toArray) := Lib.hid (by obtain ⟨ao, cp, rfl, _⟩ := HEA.out.row; rfl)
  go_wp2_with (refine wpList_store_cs rfl 22 _ _ rfl gm 3 (ev) [ev] _ _ rfl rfl HEVC.out G.out.msg (by simp only [msgC, List.length_cons, List.length_nil]; omega) (by kernel_rfl) (one_mem HEA.out.row.one) (msgC (⟨⟨k, u, f, (es.map (·.p)), [], []⟩, es, ev, (.slice none 0 0), (.slice none 0 0)⟩ : Msg)) rfl ?_)
  intro w12 c12 t12 _
  have G : Hid (MSt w w12 g K gm g1 r4 (⟨⟨k, u, f, (es.map (·.p)), [], []⟩, es, ev, (.slice none 0 0), (.slice none 0 0)⟩ : Msg)) := Lib.hid (G.out.set c12 t12 ⟨HEA.out, rfl, G.out.at'.wants, G.out.at'.wlen, G.out.at'.objs, G.out.at'.olen, G.out.at'.obj⟩ (fun q hq => by rcases hq with h | h | h | h; exact HFR.out q h; exact G.out.out q (.inr (.inl h)); exact G.out.out q (.inr (.inr (.inl h))); exact HFR2.out q h))
  clear c12 t12
  have kc := G.out.cell.at
  go_wp2_with fail
  refine (mlistH_any _ g r4 G.out.rd).mono ?_
  rintro e w13 ⟨wv, wants, r5, rfl, hrow, hnw, hb, hfin, r13⟩
  have hfr := fun q hq => G.out.fresh (hnw q hq)
  have G := Lib.hid (G.out.read r13)
  have HWR := Lib.hid hrow; have HFRW := Lib.hid hfr; have HFW := Lib.hid hfin; have HWB := Lib.hid hb
  clear r13 kc hrow hnw hfr hfin hb
  have HWVC : Hid (wv.cells = [wv].toArray) := Lib.hid (by obtain ⟨ao, cp, rfl, _⟩ := HWR.out; rfl)
  go_wp2_with (refine wpList_store_cs rfl 23 _ _ rfl gm 4 (wv) [wv] _ _ rfl rfl HWVC.out G.out.msg (by simp only [msgC, List.length_cons, List.length_nil]; omega) (by kernel_rfl) (one_mem HWR.out.one) (msgC (⟨⟨k, u, f, (es.map (·.p)), wants, []⟩, es, ev, wv, (.slice none 0 0)⟩ : Msg)) rfl ?_)
  intro w14 c14 t14 _
  have G : Hid (MSt w w14 g K gm g1 r5 (⟨⟨k, u, f, (es.map (·.p)), wants, []⟩, es, ev, wv, (.slice none 0 0)⟩ : Msg)) := Lib.hid (G.out.set c14 t14 ⟨G.out.at'.ents, G.out.at'.same, HWR.out, by have := HWB.out; simp only; omega, G.out.at'.objs, G.out.at'.olen, G.out.at'.obj⟩ (fun q hq => by rcases hq with h | h | h | h; exact G.out.out q (.inl h); exact HFRW.out q h; exact G.out.out q (.inr (.inr (.inl h))); exact G.out.out q (.inr (.inr (.inr h)))))
  clear c14 t14
  have kc := G.out.cell.at
  go_wp2_with fail
  refine (mlistT_any _ K g r5 G.out.cell (Ne.symm G.out.ne.1) G.out.rd).mono ?_
  rintro e w15 ⟨ov, objs, r6, rfl, hrow, hnw, hb, hfin, r15, _⟩
  have hfr := fun q hq => G.out.fresh (hnw q hq)
  have G := Lib.hid (G.out.read r15)
  have HOR := Lib.hid hrow; have HFRO := Lib.hid hfr; have HFO := Lib.hid hfin; have HOB := Lib.hid hb
  clear r15 kc hrow hnw hfr hfin hb
  have HOVC : Hid (ov.cells = [ov].toArray) := Lib.hid (by obtain ⟨ao, cp, rfl, _⟩ := HOR.out; rfl)
  go_wp2_with (refine wpList_store_cs rfl 24 _ _ rfl gm 5 (ov) [ov] _ _ rfl rfl HOVC.out G.out.msg (by simp only [msgC, List.length_cons, List.length_nil]; omega) (by kernel_rfl) (one_mem HOR.out.one) (msgC (⟨⟨k, u, f, (es.map (·.p)), wants, objs⟩, es, ev, wv, ov⟩ : Msg)) rfl ?_)
  intro w16 c16 t16 _
  have G : Hid (MSt w w16 g K gm g1 r6 (⟨⟨k, u, f, (es.map (·.p)), wants, objs⟩, es, ev, wv, ov⟩ : Msg)) := Lib.hid (G.out.set c16 t16 ⟨G.out.at'.ents, G.out.at'.same, G.out.at'.wants, G.out.at'.wlen, HOR.out, by have := HOB.out.1; simp only; omega, fun t ht => by have := HOB.out.2 t ht; omega⟩ (fun q hq => by rcases hq with h | h | h | h; exact G.out.out q (.inl h); exact G.out.out q (.inr (.inl h)); exact HFRO.out q h; exact G.out.out q (.inr (.inr (.inr h)))))
  clear c16 t16
  obtain ⟨m, hm⟩ : ∃ m : Msg, m = (⟨⟨k, u, f, (es.map (·.p)), wants, objs⟩, es, ev, wv, ov⟩ : Msg) := ⟨_, rfl⟩
  have hpr := mparse_read (s := s) HX.out HR1.out HR2.out HR3.out HFE.out HFW.out HFO.out
  rw [← HK.out, ← HU.out, ← HF.out] at hpr
  have hget := mgetV_again (s := s) (m := m.p) (by rw [hm]; exact G.out.at'.fit) (by rw [hm]; exact hpr)
  rw [← hm] at G
  have hput := mPut_any _ m G.out.at'
  have hCo := msgC_one G.out.at'
  have hCl : (msgC m).length = 6 := rfl
  have D := Lib.hid G.out.msg
  obtain ⟨C, hC⟩ : ∃ C, C = msgC m := ⟨_, rfl⟩
  obtain ⟨b, er, hbe⟩ : ∃ b er, mputV m.p = (b, er) := ⟨_, _, rfl⟩
  rw [hbe] at hput hget
  rw [← hC] at hput hCo D hCl
  have HPUT := Lib.hid hput; have HGET := Lib.hid hget; have HC := Lib.hid hC; have R := Lib.hid (range_of_row D.out)
  have hCi : (Try.prog.info? 26).map (·.size) = some C.length := by rw [infoM, hCl]
  have HCI := Lib.hid hCi; have HCO := Lib.hid hCo
  clear hput hget hC hCi hCo hbe hm hpr HK HU HF HR1 HR2 HR3 HFE HFW HFO HEA HFR HFR2 HEVC HWR HFRW HWB HWVC HOR HFRO HOB HOVC
  go_wp2_with (refine wpList_load_mid rfl 26 _ rfl gm 0 rfl C _ R.out Try.underlying26 rfl HCI.out ?_)
  refine HPUT.out.mono ?_
  rintro e w80 ⟨rfl, p80⟩
  have G := Lib.hid (G.out.next p80)
  have R := Lib.hid (range_of_row (show w80.heap[gm]? = some (.cells C.toArray 26 (0, 0)) by rw [HC.out]; exact G.out.msg))
  clear p80 D HPUT
  by_cases her : er = 0
  · subst her
    by_cases hbs : b = s
    · subst hbs
      have hg : mgetV b = (m.p, 0) := by have h := HGET.out; rwa [if_pos rfl] at h
      have HG2 := Lib.hid hg
      clear hg HGET
      go_wp2_with (first | (refine wpList_load_mid rfl 26 _ rfl gm 0 rfl C _ R.out Try.underlying26 rfl HCI.out ?_) | (refine wpList_store_blk rfl 26 _ _ rfl g1 _ C _ rfl rfl G.out.res (by rw [hCl]; rfl) HCI.out HCO.out ?_))
      intro w81 c81 t81 _
      have PT : Pure w w81 := G.out.pure.newer t81 G.out.lo.2.2.2
      have hat := G.out.at'.turn t81 fun q hq => (G.out.out q hq).2.2.2.2
      have HAT := Lib.hid hat
      clear t81 hat
      go_wp2
      exact bodyPost_ret (v := .tuple #[.agg C.toArray, .int .i64 0]) (results_cell2 Try.results9 _ _ g1 _ C.toArray _ _ rfl c81 Try.underlying26 rfl (by rw [List.size_toArray]; exact HCI.out)) rfl ⟨m, by rw [HG2.out, HC.out], by rw [HG2.out], HAT.out, PT⟩
    · have HR : Hid (mgetV s = (MsgP0, 2200)) := Lib.hid (by have h := HGET.out; rwa [if_neg (by simp [hbs])] at h)
      have hne : (b == s) = false := by simpa using hbs
      clear hbs
      go_wp2_with (refine wpList_store_blk rfl 26 _ _ rfl g1 _ (msgC Msg0) _ rfl rfl G.out.res (rfl) (by rw [infoM]; rfl) (msgC_one (msg0_at w)) ?_)
      intro w90 c90 t90 _
      have PT : Pure w w90 := G.out.pure.newer t90 G.out.lo.2.2.2
      clear t90
      go_wp2
      exact bodyPost_ret (v := .tuple #[.agg (msgC Msg0).toArray, .int .i64 2200]) (results_cell2 Try.results9 _ _ g1 _ (msgC Msg0).toArray _ _ rfl c90 Try.underlying26 rfl (by rw [infoM]; rfl)) rfl ⟨Msg0, by rw [HR.out], by rw [HR.out]; rfl, msg0_at _, PT⟩
  · have HR : Hid (mgetV s = (MsgP0, 2200)) := Lib.hid (by have h := HGET.out; rwa [if_neg (by simp [her])] at h)
    have q5 : (er != 0) = true := by simpa using her
    clear her
    go_wp2_with (refine wpList_store_blk rfl 26 _ _ rfl g1 _ (msgC Msg0) _ rfl rfl G.out.res (rfl) (by rw [infoM]; rfl) (msgC_one (msg0_at w)) ?_)
    intro w90 c90 t90 _
    have PT : Pure w w90 := G.out.pure.newer t90 G.out.lo.2.2.2
    clear t90
    go_wp2
    exact bodyPost_ret (v := .tuple #[.agg (msgC Msg0).toArray, .int .i64 2200]) (results_cell2 Try.results9 _ _ g1 _ (msgC Msg0).toArray _ _ rfl c90 Try.underlying26 rfl (by rw [infoM]; rfl)) rfl ⟨Msg0, by rw [HR.out], by rw [HR.out]; rfl, msg0_at _, PT⟩
end Go.Proofs.Ytigkmdjdnkbdkaa
