/- The law WireWrites, walked. -/
import Derived.Test.YtjingpkgappblaaActs
import Derived.Test.YtjingpkgappblaaAwake3
namespace Go.Proofs.Ytjingpkgappblaa
open Go.RowKit

/-- A writer and a reference writer, made behind w0, that share nothing. -/
def TwoW (w0 w : World) (g g' : Nat) (bs bs' : List UInt8) : Prop :=
  ∃ v v', IsWr 82 w g v bs ∧ IsWr 54 w g' v' bs' ∧ (∀ k, WrB g v k → ¬ WrB g' v' k) ∧ (∀ k, WrB g v k ∨ WrB g' v' k → w0.heap.size ≤ k) ∧ Pure w0 w
theorem TwoW.pure {w0 w : World} {g g' : Nat} {bs bs' : List UInt8} (h : TwoW w0 w g g' bs bs') : Pure w0 w := by obtain ⟨_, _, _, _, _, _, h⟩ := h; exact h
theorem TwoW.next {w0 w w' : World} {g g' : Nat} {bs bs' : List UInt8} (h : TwoW w0 w g g' bs bs') (ht : Pure w w') : TwoW w0 w' g g' bs bs' := by
  obtain ⟨v, v', h1, h2, h3, h4, h5⟩ := h
  exact ⟨v, v', h1.turn ht (fun _ _ e => e), h2.turn ht (fun _ _ e => e), h3, h4, h5.pure ht⟩
theorem Wrote.newB {w : World} {g : Nat} {v v2 : Value} (hb : v2.ownBlock = v.ownBlock ∨ ∀ k, v2.ownBlock = some k → w.heap.size ≤ k) : ∀ k, WrB g v2 k → WrB g v k ∨ w.heap.size ≤ k := by
  rintro k (rfl | e)
  · exact .inl (.inl rfl)
  · rcases hb with f | f
    · exact .inl (.inr (by rw [← f]; exact e))
    · exact .inr (f k e)
/-- The same, with one more block that both leave alone. -/
def TwoA (w0 w : World) (g g' : Nat) (bs bs' : List UInt8) (A : Nat) (o : Obj) : Prop :=
  ∃ v v', IsWr 82 w g v bs ∧ IsWr 54 w g' v' bs' ∧ (∀ k, WrB g v k → ¬ WrB g' v' k) ∧ (∀ k, WrB g v k ∨ WrB g' v' k → w0.heap.size ≤ k) ∧ Pure w0 w ∧
    w.heap[A]? = some o ∧ ∀ k, WrB g v k ∨ WrB g' v' k → k ≠ A
theorem TwoA.pure {w0 w : World} {g g' : Nat} {bs bs' : List UInt8} {A : Nat} {o : Obj} (h : TwoA w0 w g g' bs bs' A o) : Pure w0 w := by obtain ⟨_, _, _, _, _, _, h, _⟩ := h; exact h
theorem TwoA.obj {w0 w : World} {g g' : Nat} {bs bs' : List UInt8} {A : Nat} {o : Obj} (h : TwoA w0 w g g' bs bs' A o) : w.heap[A]? = some o := by obtain ⟨_, _, _, _, _, _, _, h, _⟩ := h; exact h
theorem TwoA.next {w0 w w' : World} {g g' : Nat} {bs bs' : List UInt8} {A : Nat} {o : Obj} (h : TwoA w0 w g g' bs bs' A o) (ht : Pure w w') : TwoA w0 w' g g' bs bs' A o := by
  obtain ⟨v, v', h1, h2, h3, h4, h5, h6, h7⟩ := h
  exact ⟨v, v', h1.turn ht (fun _ _ e => e), h2.turn ht (fun _ _ e => e), h3, h4, h5.pure ht, ht.obj h6 (fun e => e), h7⟩
theorem TwoA.two {w0 w : World} {g g' : Nat} {bs bs' : List UInt8} {A : Nat} {o : Obj} (h : TwoA w0 w g g' bs bs' A o) : TwoW w0 w g g' bs bs' := by
  obtain ⟨v, v', h1, h2, h3, h4, h5, _, _⟩ := h
  exact ⟨v, v', h1, h2, h3, h4, h5⟩
theorem TwoW.with {w0 w w' : World} {g g' : Nat} {bs bs' : List UInt8} {A : Nat} {o : Obj} (h : TwoW w0 w g g' bs bs') (ht : Pure w w') (ho : w'.heap[A]? = some o) (hA : w.heap.size ≤ A) : TwoA w0 w' g g' bs bs' A o := by
  obtain ⟨v, v', h1, h2, h3, h4, h5⟩ := h
  exact ⟨v, v', h1.turn ht (fun _ _ e => e), h2.turn ht (fun _ _ e => e), h3, h4, h5.pure ht, ho, fun k hk => by
    rcases hk with c | c
    · have := h1.blk k c; omega
    · have := h2.blk k c; omega⟩
theorem TwoA.first {w0 w : World} {g g' : Nat} {bs bs' : List UInt8} {A : Nat} {o : Obj} {f : FuncId} {args : Array Value} {r : Ending} {bs2 : List UInt8} (h : TwoA w0 w g g' bs bs' A o)
    (hc : ∀ v, IsWr 82 w g v bs → Calls Try.prog f args w fun e w' => e = r ∧ Wrote 82 w w' g v bs2) :
    Calls Try.prog f args w fun e w' => e = r ∧ TwoA w0 w' g g' bs2 bs' A o := by
  obtain ⟨v, v', h1, h2, h3, h4, h5, h6, h7⟩ := h
  refine (hc v h1).mono ?_
  rintro e w' ⟨rfl, ⟨⟨v2, k1, k2⟩, kt⟩⟩
  have hn := Wrote.newB (g := g) k2
  have hA := (Array.getElem?_eq_some_iff.1 h6).1
  refine ⟨rfl, v2, v', k1, h2.turn kt fun k a b => h3 k b a, fun k a b => ?_, fun k a => ?_, h5.trans kt fun i hi e => by have := h4 i (.inl e); omega, kt.obj h6 (fun e => h7 A (.inl e) rfl), fun k a => ?_⟩
  · rcases hn k a with c | c
    · exact h3 k c b
    · have := h2.blk k b; omega
  · rcases a with a | a
    · rcases hn k a with c | c
      · exact h4 k (.inl c)
      · have := h5.size; omega
    · exact h4 k (.inr a)
  · rcases a with a | a
    · rcases hn k a with c | c
      · exact h7 k (.inl c)
      · omega
    · exact h7 k (.inr a)
theorem TwoA.second {w0 w : World} {g g' : Nat} {bs bs' : List UInt8} {A : Nat} {o : Obj} {f : FuncId} {args : Array Value} {r : Ending} {bs2 : List UInt8} (h : TwoA w0 w g g' bs bs' A o)
    (hc : ∀ v, IsWr 54 w g' v bs' → Calls Try.prog f args w fun e w' => e = r ∧ Wrote 54 w w' g' v bs2) :
    Calls Try.prog f args w fun e w' => e = r ∧ TwoA w0 w' g g' bs bs2 A o := by
  obtain ⟨v, v', h1, h2, h3, h4, h5, h6, h7⟩ := h
  refine (hc v' h2).mono ?_
  rintro e w' ⟨rfl, ⟨⟨v2, k1, k2⟩, kt⟩⟩
  have hn := Wrote.newB (g := g') k2
  have hA := (Array.getElem?_eq_some_iff.1 h6).1
  refine ⟨rfl, v, v2, h1.turn kt fun k a b => h3 k a b, k1, fun k a b => ?_, fun k a => ?_, h5.trans kt fun i hi e => by have := h4 i (.inr e); omega, kt.obj h6 (fun e => h7 A (.inr e) rfl), fun k a => ?_⟩
  · rcases hn k b with c | c
    · exact h3 k a c
    · have := h1.blk k a; omega
  · rcases a with a | a
    · exact h4 k (.inl a)
    · rcases hn k a with c | c
      · exact h4 k (.inr c)
      · have := h5.size; omega
  · rcases a with a | a
    · exact h7 k (.inl a)
    · rcases hn k a with c | c
      · exact h7 k (.inr c)
      · omega
theorem All_two {w0 w : World} {g g' : Nat} {bs bs' : List UInt8} (h : TwoW w0 w g g' bs bs') :
    Calls Try.prog 29 #[.pointer (some ⟨g, 0, none⟩)] w fun e w' => e = .returned (.string (bstr bs)) ∧ w = w' := by
  obtain ⟨v, v', h1, h2, _⟩ := h
  exact WAll_any w g v bs h1
theorem RAll_two {w0 w : World} {g g' : Nat} {bs bs' : List UInt8} (h : TwoW w0 w g g' bs bs') :
    Calls Try.prog 36 #[.pointer (some ⟨g', 0, none⟩)] w fun e w' => e = .returned (.string (bstr bs')) ∧ w = w' := by
  obtain ⟨v, v', h1, h2, _⟩ := h
  exact RWAll_any w g' v' bs' h2
theorem Num_still (x : Int) (w : World) : Calls Try.prog 19 #[.int .i64 x] w fun e w' => e = .returned (.int .i64 x) ∧ w' = w :=
  (Num_any x w).mono fun _ _ ⟨a, b⟩ => ⟨a, b.symm⟩

/-- The act's own variable at ga. -/
structure ActAt (w : World) (ga : Nat) (a : ActV) : Prop where
  blk : w.heap[ga]? = some (.cells a.cells.toArray 58 (0, 0))
theorem ActAt.next {w w' : World} {ga : Nat} {a : ActV} {S : Nat → Prop} (h : ActAt w ga a) (ht : Turn S w w') (hn : ¬ S ga) : ActAt w' ga a := ⟨ht.obj h.blk hn⟩
theorem ActAt.c0 {w : World} {ga : Nat} {a : ActV} (h : ActAt w ga a) : w.cell? ⟨ga, 0, none⟩ = some (.int .i64 a.K) := by rw [cell_of_row w ga 0 _ _ _ h.blk]; simp [ActV.cells]
theorem ActAt.c1 {w : World} {ga : Nat} {a : ActV} (h : ActAt w ga a) : w.cell? ⟨ga, 1, none⟩ = some (.int .i64 a.X) := by rw [cell_of_row w ga 1 _ _ _ h.blk]; simp [ActV.cells]
theorem ActAt.c2 {w : World} {ga : Nat} {a : ActV} (h : ActAt w ga a) : w.cell? ⟨ga, 2, none⟩ = some (.int .i64 a.S) := by rw [cell_of_row w ga 2 _ _ _ h.blk]; simp [ActV.cells]
theorem ActAt.c3 {w : World} {ga : Nat} {a : ActV} (h : ActAt w ga a) : w.cell? ⟨ga, 3, none⟩ = some (.string (bstr a.T)) := by rw [cell_of_row w ga 3 _ _ _ h.blk]; simp [ActV.cells]
theorem ActAt.c4 {w : World} {ga : Nat} {a : ActV} (h : ActAt w ga a) : w.rangeAt ga 4 (u8s a.H) := by
  intro j v hv
  rw [cell_of_row w ga (4 + j) _ _ _ h.blk]
  simp only [ActV.cells, List.getElem?_toArray]
  rw [Nat.add_comm 4 j]
  simpa using hv

set_option maxRecDepth 100000 in
set_option maxHeartbeats 1000000 in
theorem WireWrites_any (v : Value) (xs : List ActV) (w : World) (hv : IsActs w v xs) (hl : xs.length ≤ 140737488351232) :
    Calls Try.prog 8 #[v] w fun e w' => e = .returned (.bool true) ∧ Pure w w' := by
  obtain ⟨ao, cap, rfl, hle, _, hel⟩ := hv
  go_enter Try.func8, Try.ntmps8
  go_wp2_with fail
  refine (New_any w).mono ?_
  rintro e w1 ⟨rfl, h1, ht1⟩
  have hlt1 := h1.lt
  generalize hg : w.heap.size = g at *
  have hg0 : w.heap.size ≤ g := by omega
  clear hg
  have h2 : TwoW w (w1.alloc (.cells #[.slice none 0 0] 54)) g w1.heap.size [] [] := by
    refine ⟨_, .slice none 0 0, h1.turn (S := fun _ => False) ((Turn.refl _ _).alloc _) (fun _ _ e => e), ⟨heap_alloc_new _ _, World.ownsRow_nil _ _ _ _, by simp [Value.ownBlock], by simp⟩, ?_, ?_, ht1.alloc _⟩
    · rintro k (rfl | e) (f | f)
      · omega
      · simp [Value.ownBlock] at f
      · simp [Value.ownBlock] at e
      · simp [Value.ownBlock] at e
    · rintro k ((rfl | e) | (rfl | e))
      · exact hg0
      · simp [Value.ownBlock] at e
      · exact ht1.size
      · simp [Value.ownBlock] at e
  clear h1 ht1
  go_wp2_with fail
  generalize w1.heap.size = g' at *
  go_loopw [5] (fun i wr => ∃ k bs, k ≤ xs.length ∧ k ≤ 60 ∧ i = .int .i64 (k : Nat) ∧ TwoW w wr g g' bs bs) (fun i _ => 60 - (intOf i).toNat)
  case atStart => exact ⟨0, [], by omega, by omega, rfl, h2⟩
  case round =>
    clear h2
    obtain ⟨k, bs, hk, hk60, rfl, hT⟩ := hrel
    by_cases hlt : k < 60 ∧ k < xs.length
    · obtain ⟨hk1, hk2⟩ := hlt
      obtain ⟨hok, b, o, rfl, hr⟩ := hel k xs[k] (by simp [hk2])
      generalize xs[k] = a at hok hr
      have hr2 : wr.rangeAt b (o + k * 36) a.cells := fun j u hu => hT.pure.cell (hr j u hu) (fun e => e)
      have hlen := ActV.len hok
      have HLEN := Lib.hid hlen; clear hlen
      go_wp2_with (first | (refine wpList_load_mid rfl 58 _ rfl b (o + k * 36) rfl a.cells _ hr2 Try.underlying58 rfl (by rw [HLEN.out]; kernel_rfl) ?_) | (refine wpList_store_blk rfl 58 _ _ rfl wr.heap.size _ a.cells _ rfl rfl (heap_alloc_new _ _) (by rw [HLEN.out]; rfl) (by rw [HLEN.out]; kernel_rfl) a.one ?_))
      intro wa hca hta _
      have hpa : Pure wr wa := ((Turn.refl (fun _ => False) wr).alloc _).trans hta fun i hi e => by omega
      have hA := hT.with hpa hca (Nat.le_refl _)
      clear hca hta hr2 hr HLEN hel hT hpa
      generalize wr.heap.size = ga at *
      have x0 := ActAt.c0 ⟨hA.obj⟩
      have x1 := ActAt.c1 ⟨hA.obj⟩
      have x2 := ActAt.c2 ⟨hA.obj⟩
      have x3 := ActAt.c3 ⟨hA.obj⟩
      have x4 := ActAt.c4 ⟨hA.obj⟩
      have hTl := hok.text
      by_cases hK4 : a.K < 4
      · go_wp2_with fail
        refine (hA.first (bs2 := (wrNum bs a.X a.S).2) fun v h => WNum_any _ _ _ _ _ _ h).mono ?_
        rintro e wb ⟨rfl, hB⟩
        clear x0 x1 x2 x3 x4 hA
        have x1 := ActAt.c1 ⟨hB.obj⟩
        have x2 := ActAt.c2 ⟨hB.obj⟩
        have x3 := ActAt.c3 ⟨hB.obj⟩
        have x4 := ActAt.c4 ⟨hB.obj⟩
        have hBd := hB.next ((Turn.refl _ wb).drew)
        generalize hR : wrNum bs a.X a.S = R at *
        have HR := Lib.hid hR; clear hR
        go_wp2_with fail
        refine wp_region_still_tail 7 (by kernel_rfl) (by kernel_rfl) ?_
        simp only [List.take_succ_cons, List.take_zero, List.drop_succ_cons, List.drop_zero]
        still_step
        still_call (Num_still _ _)
        still_step
        still_step
        still_step
        still_step
        still_step
        refine wpStill_nil ?_
        go_wp2_with fail
        refine (hBd.second (r := .returned (.int .i64 R.1)) (bs2 := R.2) fun v h => by rw [show R = _ from HR.out.symm]; exact RWNum_any _ _ _ _ _ _ h).mono ?_
        rintro e wc ⟨rfl, hC⟩
        have hCt := hC.two
        go_wp2_with (first | (go_at_call 29; refine (All_two hCt).mono ?_; rintro e w9 ⟨rfl, rfl⟩) | (go_at_call 36; refine (RAll_two hCt).mono ?_; rintro e w9 ⟨rfl, rfl⟩))
        exact ⟨⟨k + 1, R.2, by omega, by omega, by go_num, hCt⟩, by simp [intOf]; omega⟩
      · by_cases hK7 : a.K < 7
        · go_wp2_with fail
          refine (hA.first (bs2 := (wrText bs a.T a.S).2) fun v h => WText_any _ _ _ _ _ _ h (by omega)).mono ?_
          rintro e wb ⟨rfl, hB⟩
          clear x0 x1 x2 x3 x4 hA
          have x1 := ActAt.c1 ⟨hB.obj⟩
          have x2 := ActAt.c2 ⟨hB.obj⟩
          have x3 := ActAt.c3 ⟨hB.obj⟩
          have x4 := ActAt.c4 ⟨hB.obj⟩
          have hBd := hB.next ((Turn.refl _ wb).drew)
          generalize hR : wrText bs a.T a.S = R at *
          have HR := Lib.hid hR; clear hR
          go_wp2_with fail
          refine wp_region_still_tail 7 (by kernel_rfl) (by kernel_rfl) ?_
          simp only [List.take_succ_cons, List.take_zero, List.drop_succ_cons, List.drop_zero]
          still_step
          still_call (Num_still _ _)
          still_step
          still_step
          still_step
          still_step
          still_step
          refine wpStill_nil ?_
          go_wp2_with fail
          refine (hBd.second (r := .returned (.int .i64 R.1)) (bs2 := R.2) fun v h => by rw [show R = _ from HR.out.symm]; exact RWText_any _ _ _ _ _ _ h (by omega)).mono ?_
          rintro e wc ⟨rfl, hC⟩
          have hCt := hC.two
          go_wp2_with (first | (go_at_call 29; refine (All_two hCt).mono ?_; rintro e w9 ⟨rfl, rfl⟩) | (go_at_call 36; refine (RAll_two hCt).mono ?_; rintro e w9 ⟨rfl, rfl⟩))
          exact ⟨⟨k + 1, R.2, by omega, by omega, by go_num, hCt⟩, by simp [intOf]; omega⟩
        · go_wp2_with (refine wpList_load_mid rfl 56 _ rfl ga 4 rfl (u8s a.H) _ x4 Try.underlying56 rfl (by rw [u8s_length, hok.hash]; kernel_rfl) ?_)
          refine (hA.first (bs2 := (wrPut bs a.H).2) fun v h => WHash_any _ _ _ _ _ h hok.hash).mono ?_
          rintro e wb ⟨rfl, hB⟩
          clear x0 x1 x2 x3 x4 hA
          have x1 := ActAt.c1 ⟨hB.obj⟩
          have x2 := ActAt.c2 ⟨hB.obj⟩
          have x3 := ActAt.c3 ⟨hB.obj⟩
          have x4 := ActAt.c4 ⟨hB.obj⟩
          have hBd := hB.next ((Turn.refl _ wb).drew)
          generalize hR : wrPut bs a.H = R at *
          have HR := Lib.hid hR; clear hR
          go_wp2_with fail
          refine wp_region_still_tail 5 (by kernel_rfl) (by kernel_rfl) ?_
          simp only [List.take_succ_cons, List.take_zero, List.drop_succ_cons, List.drop_zero]
          still_step
          still_call (Num_still _ _)
          still_step
          still_step
          refine wpStill_load_mid rfl 56 _ rfl ga 4 rfl (u8s a.H) _ (show wb.drew.rangeAt ga 4 (u8s a.H) from x4) Try.underlying56 rfl (by rw [u8s_length, hok.hash]; kernel_rfl) ?_
          refine wpStill_nil ?_
          go_wp2_with fail
          refine (hBd.second (r := .returned (.int .i64 R.1)) (bs2 := R.2) fun v h => by rw [show R = _ from HR.out.symm]; exact RWHash_any _ _ _ _ _ h hok.hash).mono ?_
          rintro e wc ⟨rfl, hC⟩
          have hCt := hC.two
          go_wp2_with (first | (go_at_call 29; refine (All_two hCt).mono ?_; rintro e w9 ⟨rfl, rfl⟩) | (go_at_call 36; refine (RAll_two hCt).mono ?_; rintro e w9 ⟨rfl, rfl⟩))
          exact ⟨⟨k + 1, R.2, by omega, by omega, by go_num, hCt⟩, by simp [intOf]; omega⟩
    · by_cases hk1 : k < 60
      · have hk2 : ¬ k < xs.length := fun h => hlt ⟨hk1, h⟩
        clear hlt hel
        go_wp2_with (go_at_call 25; refine (awake3_any _).mono ?_; rintro e w9 ⟨rfl, h9⟩)
        go_ret
        exact ⟨rfl, hT.pure.pure h9⟩
      · clear hlt hel
        by_cases hk2 : k < xs.length
        · go_wp2_with (go_at_call 25; refine (awake3_any _).mono ?_; rintro e w9 ⟨rfl, h9⟩)
          go_ret
          exact ⟨rfl, hT.pure.pure h9⟩
        · go_wp2_with (go_at_call 25; refine (awake3_any _).mono ?_; rintro e w9 ⟨rfl, h9⟩)
          go_ret
          exact ⟨rfl, hT.pure.pure h9⟩
end Go.Proofs.Ytjingpkgappblaa
