/- The law WireBack, walked. -/
import Derived.Test.YtjingpkgappblaaWireReads
import Derived.Test.YtjingpkgappblaaWireNums
namespace Go.Proofs.Ytjingpkgappblaa
open Go.RowKit

theorem flatMap_get {α : Type} (f : α → List Value) (size : Nat) : ∀ (ds : List α), (∀ a ∈ ds, (f a).length = size) → ∀ (i : Nat) (d : α), ds[i]? = some d → ∀ j, j < size → (ds.flatMap f)[i * size + j]? = (f d)[j]?
  | [], _, i, d, h, _, _ => by simp at h
  | a :: ds, hf, 0, d, h, j, hj => by
    simp at h
    subst h
    rw [List.flatMap_cons, List.getElem?_append_left (by rw [hf a (by simp)]; omega)]
    simp
  | a :: ds, hf, i + 1, d, h, j, hj => by
    have ih := flatMap_get f size ds (fun b hb => hf b (by simp [hb])) i d (by simpa using h) j hj
    have hl := hf a (by simp)
    rw [List.flatMap_cons, List.getElem?_append_right (by rw [hl, Nat.add_mul]; omega), hl, ← ih]
    congr 1
    rw [Nat.add_mul]
    omega

theorem own_range {α : Type} {w : World} {e : TypeId} {size b c n : Nat} {f : α → List Value} {ds : List α} (h : w.ownsRow 0 e size (.slice (some ⟨b, 0, none⟩) n c) n (ds.flatMap f)) (hf : ∀ a ∈ ds, (f a).length = size) (i : Nat) (d : α) (hi : ds[i]? = some d) :
    w.rangeAt b (0 + i * size) (f d) := by
  intro j v hv
  have hj : j < size := by rw [← hf d (List.mem_of_getElem? hi)]; exact (List.getElem?_eq_some_iff.1 hv).1
  have := h.cells (g := b) rfl (i * size + j) v (by rw [flatMap_get f size ds hf i d hi j hj, hv])
  rw [Addr.add_mid] at this
  rw [show 0 + i * size + j = 0 + (i * size + j) from by omega]
  exact this

/-- The bytes of an act that was written. -/
def ActV.enc (a : ActV) : List UInt8 := if a.K < 4 then beB a.X.toNat a.S.toNat else if a.K < 7 then beB a.T.length a.S.toNat ++ a.T else a.H
structure ActV.Good (a : ActV) : Prop where
  ok : a.Ok
  num : a.K < 4 → fitsB a.X a.S = true
  txt : ¬ a.K < 4 → a.K < 7 → fitsB a.T.length a.S = true
theorem wrPut_is0 {bs q : List UInt8} (h : (wrPut bs q).1 = 0) : (wrPut bs q).2 = bs ++ q := by
  unfold wrPut at *
  split at h
  · rw [if_pos (by assumption)]
  · simp at h
theorem wrPut_is0' {bs q : List UInt8} (h : (wrPut bs q).1 = 0) : True ∧ (wrPut bs q).2 = bs ++ q := ⟨trivial, wrPut_is0 h⟩
theorem wrPut_isnt {bs q : List UInt8} (h : (wrPut bs q).1 ≠ 0) : (wrPut bs q).2 = bs := by
  unfold wrPut at *
  split at h
  · simp at h
  · rw [if_neg (by assumption)]
theorem wrNum_is0 {bs : List UInt8} {x s : Int} (h : (wrNum bs x s).1 = 0) : fitsB x s = true ∧ (wrNum bs x s).2 = bs ++ beB x.toNat s.toNat := by
  unfold wrNum at *
  by_cases hf : fitsB x s = true
  · rw [if_pos hf] at h ⊢; exact ⟨hf, wrPut_is0 h⟩
  · rw [if_neg hf] at h; simp at h
theorem wrNum_isnt {bs : List UInt8} {x s : Int} (h : (wrNum bs x s).1 ≠ 0) : (wrNum bs x s).2 = bs := by
  unfold wrNum at *
  by_cases hf : fitsB x s = true
  · rw [if_pos hf] at h ⊢; exact wrPut_isnt h
  · rw [if_neg hf]
theorem wrText_is0 {bs t : List UInt8} {s : Int} (h : (wrText bs t s).1 = 0) : fitsB t.length s = true ∧ (wrText bs t s).2 = bs ++ (beB t.length s.toNat ++ t) := by
  unfold wrText at *
  by_cases hf : fitsB t.length s = true
  · rw [if_pos hf] at h ⊢; exact ⟨hf, wrPut_is0 h⟩
  · rw [if_neg hf] at h; simp at h
theorem wrText_isnt {bs t : List UInt8} {s : Int} (h : (wrText bs t s).1 ≠ 0) : (wrText bs t s).2 = bs := by
  unfold wrText at *
  by_cases hf : fitsB t.length s = true
  · rw [if_pos hf] at h ⊢; exact wrPut_isnt h
  · rw [if_neg hf]
theorem rdNum_enc {a : ActV} (h : a.Good) (hk : a.K < 4) (r : List UInt8) : rdNum (a.enc ++ r) a.S = (a.X, 0, r) := by
  obtain ⟨x, n, hx, hs, hn, hlt⟩ := fitsB_nat (h.num hk)
  rw [ActV.enc, if_pos hk, hx, hs]
  exact rdNum_beB x n r hn hlt
theorem rdText_enc {a : ActV} (h : a.Good) (hk : ¬ a.K < 4) (hk7 : a.K < 7) (r : List UInt8) : rdText (a.enc ++ r) a.S = (a.T, 0, r) := by
  obtain ⟨x, n, hx, hs, hn, hlt⟩ := fitsB_nat (h.txt hk hk7)
  have hx' : a.T.length = x := by omega
  rw [ActV.enc, if_neg hk, if_pos hk7, hs, Int.toNat_natCast, List.append_assoc, rdText_eq, rdNum_beB _ n _ hn (by omega)]
  simp
theorem rdHash_enc {a : ActV} (h : a.Good) (hk : ¬ a.K < 4) (hk7 : ¬ a.K < 7) (r : List UInt8) : rdHash (a.enc ++ r) = (a.H, 0, r) := by
  have hl := h.ok.hash
  rw [ActV.enc, if_neg hk, if_neg hk7, rdHash, if_pos (by simp; omega), List.take_append_of_le_length (by omega), List.take_of_length_le (by omega), List.drop_append_of_le_length (by omega), List.drop_of_length_le (by omega)]
  rfl

/-- A writer, and the acts that were written. -/
def Both (w0 w : World) (g : Nat) (bs : List UInt8) (vd : Value) (ds : List ActV) : Prop :=
  ∃ v, IsWr 82 w g v bs ∧ w.ownsRow 0 58 36 vd ds.length (ds.flatMap ActV.cells) ∧ (∀ k, WrB g v k → vd.ownBlock ≠ some k) ∧ (∀ k, WrB g v k ∨ vd.ownBlock = some k → w0.heap.size ≤ k) ∧ Pure w0 w
theorem Both.next {w0 w w' : World} {g : Nat} {bs : List UInt8} {vd : Value} {ds : List ActV} (h : Both w0 w g bs vd ds) (ht : Pure w w') : Both w0 w' g bs vd ds := by
  obtain ⟨v, h1, h2, h3, h4, h5⟩ := h
  exact ⟨v, h1.turn ht (fun _ _ e => e), ht.own h2 (fun _ _ e => e), h3, h4, h5.pure ht⟩
theorem Both.row {w0 w : World} {g : Nat} {bs : List UInt8} {vd : Value} {ds : List ActV} (h : Both w0 w g bs vd ds) : w.ownsRow 0 58 36 vd ds.length (ds.flatMap ActV.cells) := by obtain ⟨_, _, h, _⟩ := h; exact h
theorem Both.notNew {w0 w w' : World} {g : Nat} {bs : List UInt8} {vd : Value} {ds : List ActV} (h : Both w0 w g bs vd ds) (ht : Pure w w') (v : Value) (hw : IsWr 82 w' g v bs) (A : Nat) (hA : w.heap.size ≤ A) : ¬ WrB g v A := by
  obtain ⟨v0, h1, _⟩ := h
  have h2 := ht.obj h1.cell (fun e => e)
  have h3 := hw.cell
  rw [h2] at h3
  simp at h3
  subst h3
  intro e
  have := h1.blk A e
  omega
theorem Both.write {w0 w : World} {g : Nat} {bs bs2 : List UInt8} {vd : Value} {ds : List ActV} {f : FuncId} {args : Array Value} {r : Ending} (h : Both w0 w g bs vd ds)
    (hc : ∀ v, IsWr 82 w g v bs → Calls Try.prog f args w fun e w' => e = r ∧ Wrote 82 w w' g v bs2) :
    Calls Try.prog f args w fun e w' => e = r ∧ Both w0 w' g bs2 vd ds ∧ ∀ A (o : Obj), w.heap[A]? = some o → (∀ v, IsWr 82 w g v bs → ¬ WrB g v A) → w'.heap[A]? = some o := by
  obtain ⟨v, h1, h2, h3, h4, h5⟩ := h
  refine (hc v h1).mono ?_
  rintro e w' ⟨rfl, ⟨⟨v2, k1, k2⟩, kt⟩⟩
  have hn := Wrote.newB (g := g) k2
  refine ⟨rfl, ⟨v2, k1, kt.own h2 (fun k hk e => h3 k e hk), fun k a b => ?_, fun k a => ?_, h5.trans kt fun i hi e => by have := h4 i (.inl e); omega⟩, fun A o ho hA => kt.obj ho (hA v h1)⟩
  · rcases hn k a with c | c
    · exact h3 k c b
    · have := (h2.lt k b).2; omega
  · rcases a with a | a
    · rcases hn k a with c | c
      · exact h4 k (.inl c)
      · have := h5.size; omega
    · exact h4 k (.inr a)
theorem Both.grow {w0 w w' : World} {g : Nat} {bs : List UInt8} {vd vd' : Value} {ds : List ActV} {d : ActV} {n : Nat} (h : Both w0 w g bs vd ds) (hn : n = (ds ++ [d]).length) (ho : w'.ownsRow 0 58 36 vd' n (ds.flatMap ActV.cells ++ d.cells))
    (ht : Turn (fun k => vd.ownBlock = some k) w w') (hb : Hid (vd'.ownBlock = vd.ownBlock ∨ vd'.ownBlock = some w.heap.size)) : Both w0 w' g bs vd' (ds ++ [d]) := by
  obtain ⟨v, h1, h2, h3, h4, h5⟩ := h
  subst hn
  refine ⟨v, h1.turn ht (fun k a b => h3 k a b), by simpa [List.flatMap_append] using ho, fun k a b => ?_, fun k a => ?_, h5.trans ht fun i hi e => by have := h4 i (.inr e); omega⟩
  · rcases hb.out with c | c
    · exact h3 k a (by rw [← c]; exact b)
    · have := h1.blk k a; rw [c] at b; simp at b; omega
  · rcases a with a | a
    · exact h4 k (.inl a)
    · rcases hb.out with c | c
      · exact h4 k (.inr (by rw [← c]; exact a))
      · rw [c] at a; simp at a; have := h5.size; omega

def actZero : ActV := ⟨0, 0, 0, [], List.replicate 32 0⟩
theorem Try.infoAct : (Try.prog.info? 58).map (fun i => (i.zero, i.size, i.bytes)) = some (some (.agg actZero.cells.toArray), 36, 72) := by kernel_rfl

set_option maxRecDepth 100000 in
set_option maxHeartbeats 1000000 in
theorem WireBack_any (v : Value) (xs : List ActV) (w : World) (hv : IsActs w v xs) (hl : xs.length ≤ 140737488351232) :
    Calls Try.prog 11 #[v] w fun e w' => e = .returned (.bool true) ∧ Pure w w' := by
  obtain ⟨ao, cap, rfl, hle, _, hel⟩ := hv
  go_enter Try.func11, Try.ntmps11
  go_wp2_with fail
  refine (awake3_any w).mono ?_
  rintro e w1 ⟨rfl, ht1⟩
  go_wp2_with fail
  refine (New_any w1).mono ?_
  rintro e w2 ⟨rfl, h1, ht2⟩
  have hB0 : Both w w2 w1.heap.size [] (.slice none 0 0) [] := ⟨_, h1, World.ownsRow_nil _ _ _ _, by simp [Value.ownBlock], by
    rintro k ((rfl | e) | e)
    · exact ht1.size
    · simp [Value.ownBlock] at e
    · simp [Value.ownBlock] at e, ht1.pure ht2⟩
  clear h1 ht1 ht2
  go_wp2_with fail
  generalize w1.heap.size = g at *
  go_loopw [4, 5] (fun vd i wr => ∃ k bs ds, k ≤ xs.length ∧ k ≤ 40 ∧ ds.length ≤ k ∧ i = .int .i64 (k : Nat) ∧ Both w wr g bs vd ds ∧ bs = ds.flatMap ActV.enc ∧ ∀ d ∈ ds, d.Good) (fun _ i _ => 40 - (intOf i).toNat)
  case atStart => exact ⟨0, [], [], by omega, by omega, by simp, rfl, hB0, rfl, by simp⟩
  case round =>
    clear hB0
    obtain ⟨k, bs, ds, hk, hk40, hdk, rfl, hB, hbs, hds⟩ := hrel
    by_cases hlt : k < 40 ∧ k < xs.length
    · obtain ⟨hk1, hk2⟩ := hlt
      obtain ⟨hok, b, o, rfl, hr⟩ := hel k xs[k] (by simp [hk2])
      generalize xs[k] = a at hok hr
      have hpw : Pure w wr := by obtain ⟨_, _, _, _, _, h⟩ := hB; exact h
      have hr2 : wr.rangeAt b (o + k * 36) a.cells := fun j u hu => hpw.cell (hr j u hu) (fun e => e)
      have hlen := ActV.len hok
      have HLEN := Lib.hid hlen; clear hlen
      have HBS := Lib.hid hbs; clear hbs
      have HDS := Lib.hid hds; clear hds
      obtain ⟨aod, cd, hvd, _⟩ : ∃ ao c, u4 = .slice ao ds.length c ∧ ds.length ≤ c := by obtain ⟨_, _, h, _⟩ := hB; exact ownsRow_shape h
      subst hvd
      go_wp2_with (first | (refine wpList_load_mid rfl 58 _ rfl b (o + k * 36) rfl a.cells _ hr2 Try.underlying58 rfl (by rw [HLEN.out]; kernel_rfl) ?_) | (refine wpList_store_blk rfl 58 _ _ rfl wr.heap.size _ a.cells _ rfl rfl (heap_alloc_new _ _) (by rw [HLEN.out]; rfl) (by rw [HLEN.out]; kernel_rfl) a.one ?_))
      intro wa hca hta _
      have hpa : Pure wr wa := ((Turn.refl (fun _ => False) wr).alloc _).trans hta fun i hi e => by omega
      have hgan : ∀ v, IsWr 82 wa g v bs → ¬ WrB g v wr.heap.size := fun v hw => hB.notNew hpa v hw _ (Nat.le_refl _)
      obtain ⟨iA, hiA, hzA, hsA, hbA⟩ := info_parts Try.infoAct
      have hB' := hB.next hpa
      clear hta hr2 hr hel hpa hpw hB
      have hB := hB'
      clear hB'
      have hA : ActAt wa wr.heap.size a := ⟨hca⟩
      clear hca
      generalize wr.heap.size = ga at *
      have x0 := hA.c0
      have x1 := hA.c1
      have x2 := hA.c2
      have x3 := hA.c3
      have x4 := hA.c4
      by_cases hK4 : a.K < 4
      · go_wp2_with fail
        refine (hB.write (bs2 := (wrNum bs a.X a.S).2) fun v h => WNum_any _ _ _ _ _ _ h).mono ?_
        rintro e wb ⟨rfl, hB2, hkeep⟩
        have hcb := hkeep ga _ hA.blk (fun v hw e => hgan v hw e)
        clear hkeep hB
        have hA2 : ActAt wb ga a := ⟨hcb⟩
        by_cases h0 : (wrNum bs a.X a.S).1 = 0
        · obtain ⟨hfit, hbs2⟩ := wrNum_is0 h0
          rw [hbs2] at hB2
          have hgood : a.Good := ⟨hok, fun _ => hfit, fun hh => (hh hK4).elim⟩
          have hb0 : ((wrNum bs a.X a.S).1 == 0) = true := by simp [h0]
          clear hfit hbs2 h0
          generalize wrNum bs a.X a.S = R at hb0 ⊢
          have hrow := hB2.row
          have hB3 := hB2.next ((Turn.refl _ wb).alloc (.cells a.cells.toArray 58))
          have HB3 := Lib.hid hB3; clear hB3
          have hown := (HB3.out).row
          have hsrc := Src.ofSlice (P := Try.prog) (size := 36) (tx := 51) (wb.alloc (.cells a.cells.toArray 58)) Try.underlying51 ⟨wb.heap.size, 0, none⟩ 1 1 a.cells (by rw [HLEN.out]) (fun j u hu => by rw [Addr.add_mid, Nat.zero_add, World.cell?_alloc_new]; simpa using hu) a.one
          have HS := Lib.hid hsrc; clear hsrc
          have HO := Lib.hid hown; clear hown hrow hB2
          have HG := Lib.hid hgood; clear hgood
          go_wp2_with (first | (go_at_call 19; refine (Num_any _ _).mono ?_; rintro e w9 ⟨rfl, rfl⟩) | (refine wpList_load_row rfl 58 _ rfl ga rfl _ a.cells.toArray _ _ hA2.blk Try.underlying58 rfl (by rw [List.size_toArray, HLEN.out]; kernel_rfl) ?_) | (refine wpList_buildSlice_one rfl 51 58 _ rfl iA _ 36 a.cells Try.underlying51 hiA hzA hsA (by omega) (by omega) rfl HLEN.out ?_) | (at_builtin; refine wpList_append_turn _ rfl _ _ 51 51 58 rfl iA _ 36 72 Try.underlying51 hiA hzA hsA hbA rfl _ _ _ rfl HO.out _ rfl 1 _ HS.out ?_ ?_ ?_))
          case refine_1 => omega
          case refine_2 => omega
          intro ao3 c3 w3 hown3 ht3 hb3
          have hB4 := HB3.out.grow (d := a) (by simp) hown3 ht3 (Lib.hid (by simpa using hb3.out))
          have HB4 := Lib.hid hB4; clear hB4 hown3 ht3 hb3
          go_wp2
          refine ⟨⟨k + 1, _, ds ++ [a], by omega, by omega, by simp; omega, by go_num, HB4.out, ?_, ?_⟩, by simp [intOf]; omega⟩
          · rw [HBS.out, List.flatMap_append]
            simp [ActV.enc, hK4]
          · intro d hd
            rcases List.mem_append.1 hd with hd | hd
            · exact HDS.out d hd
            · simp at hd; subst hd; exact HG.out
        · have hbs2 := wrNum_isnt h0
          rw [hbs2] at hB2
          have hb0 : ((wrNum bs a.X a.S).1 == 0) = false := by simpa using h0
          clear hbs2 h0
          generalize wrNum bs a.X a.S = R at hb0 ⊢
          go_wp2_with (first | (go_at_call 19; refine (Num_any _ _).mono ?_; rintro e w9 ⟨rfl, rfl⟩))
          exact ⟨⟨k + 1, bs, ds, by omega, by omega, by omega, by go_num, hB2, HBS.out, HDS.out⟩, by simp [intOf]; omega⟩
      · by_cases hK7 : a.K < 7
        · go_wp2_with fail
          refine (hB.write (bs2 := (wrText bs a.T a.S).2) fun v h => WText_any _ _ _ _ _ _ h (by have := hok.text; omega)).mono ?_
          rintro e wb ⟨rfl, hB2, hkeep⟩
          have hcb := hkeep ga _ hA.blk (fun v hw e => hgan v hw e)
          clear hkeep hB
          have hA2 : ActAt wb ga a := ⟨hcb⟩
          by_cases h0 : (wrText bs a.T a.S).1 = 0
          · obtain ⟨hfit, hbs2⟩ := wrText_is0 h0
            rw [hbs2] at hB2
            have hgood : a.Good := ⟨hok, fun hh => by omega, fun _ _ => hfit⟩
            have hb0 : ((wrText bs a.T a.S).1 == 0) = true := by simp [h0]
            clear hfit hbs2 h0
            generalize wrText bs a.T a.S = R at hb0 ⊢
            have hrow := hB2.row
            have hB3 := hB2.next ((Turn.refl _ wb).alloc (.cells a.cells.toArray 58))
            have HB3 := Lib.hid hB3; clear hB3
            have hown := (HB3.out).row
            have hsrc := Src.ofSlice (P := Try.prog) (size := 36) (tx := 51) (wb.alloc (.cells a.cells.toArray 58)) Try.underlying51 ⟨wb.heap.size, 0, none⟩ 1 1 a.cells (by rw [HLEN.out]) (fun j u hu => by rw [Addr.add_mid, Nat.zero_add, World.cell?_alloc_new]; simpa using hu) a.one
            have HS := Lib.hid hsrc; clear hsrc
            have HO := Lib.hid hown; clear hown hrow hB2
            have HG := Lib.hid hgood; clear hgood
            go_wp2_with (first | (go_at_call 19; refine (Num_any _ _).mono ?_; rintro e w9 ⟨rfl, rfl⟩) | (refine wpList_load_row rfl 58 _ rfl ga rfl _ a.cells.toArray _ _ hA2.blk Try.underlying58 rfl (by rw [List.size_toArray, HLEN.out]; kernel_rfl) ?_) | (refine wpList_buildSlice_one rfl 51 58 _ rfl iA _ 36 a.cells Try.underlying51 hiA hzA hsA (by omega) (by omega) rfl HLEN.out ?_) | (at_builtin; refine wpList_append_turn _ rfl _ _ 51 51 58 rfl iA _ 36 72 Try.underlying51 hiA hzA hsA hbA rfl _ _ _ rfl HO.out _ rfl 1 _ HS.out ?_ ?_ ?_))
            case refine_1 => omega
            case refine_2 => omega
            intro ao3 c3 w3 hown3 ht3 hb3
            have hB4 := HB3.out.grow (d := a) (by simp) hown3 ht3 (Lib.hid (by simpa using hb3.out))
            have HB4 := Lib.hid hB4; clear hB4 hown3 ht3 hb3
            go_wp2
            refine ⟨⟨k + 1, _, ds ++ [a], by omega, by omega, by simp; omega, by go_num, HB4.out, ?_, ?_⟩, by simp [intOf]; omega⟩
            · rw [HBS.out, List.flatMap_append]
              simp [ActV.enc, show ¬ a.K < 4 from by omega, hK7]
            · intro d hd
              rcases List.mem_append.1 hd with hd | hd
              · exact HDS.out d hd
              · simp at hd; subst hd; exact HG.out
          · have hbs2 := wrText_isnt h0
            rw [hbs2] at hB2
            have hb0 : ((wrText bs a.T a.S).1 == 0) = false := by simpa using h0
            clear hbs2 h0
            generalize wrText bs a.T a.S = R at hb0 ⊢
            go_wp2_with (first | (go_at_call 19; refine (Num_any _ _).mono ?_; rintro e w9 ⟨rfl, rfl⟩))
            exact ⟨⟨k + 1, bs, ds, by omega, by omega, by omega, by go_num, hB2, HBS.out, HDS.out⟩, by simp [intOf]; omega⟩
        · go_wp2_with (refine wpList_load_mid rfl 56 _ rfl ga 4 rfl (u8s a.H) _ x4 Try.underlying56 rfl (by rw [u8s_length, hok.hash]; kernel_rfl) ?_)
          refine (hB.write (bs2 := (wrPut bs a.H).2) fun v h => WHash_any _ _ _ _ _ h hok.hash).mono ?_
          rintro e wb ⟨rfl, hB2, hkeep⟩
          have hcb := hkeep ga _ hA.blk (fun v hw e => hgan v hw e)
          clear hkeep hB
          have hA2 : ActAt wb ga a := ⟨hcb⟩
          by_cases h0 : (wrPut bs a.H).1 = 0
          · obtain ⟨hfit, hbs2⟩ := wrPut_is0' h0
            rw [hbs2] at hB2
            have hgood : a.Good := ⟨hok, fun hh => by omega, fun _ hh => by omega⟩
            have hb0 : ((wrPut bs a.H).1 == 0) = true := by simp [h0]
            clear hfit hbs2 h0
            generalize wrPut bs a.H = R at hb0 ⊢
            have hrow := hB2.row
            have hB3 := hB2.next ((Turn.refl _ wb).alloc (.cells a.cells.toArray 58))
            have HB3 := Lib.hid hB3; clear hB3
            have hown := (HB3.out).row
            have hsrc := Src.ofSlice (P := Try.prog) (size := 36) (tx := 51) (wb.alloc (.cells a.cells.toArray 58)) Try.underlying51 ⟨wb.heap.size, 0, none⟩ 1 1 a.cells (by rw [HLEN.out]) (fun j u hu => by rw [Addr.add_mid, Nat.zero_add, World.cell?_alloc_new]; simpa using hu) a.one
            have HS := Lib.hid hsrc; clear hsrc
            have HO := Lib.hid hown; clear hown hrow hB2
            have HG := Lib.hid hgood; clear hgood
            go_wp2_with (first | (go_at_call 19; refine (Num_any _ _).mono ?_; rintro e w9 ⟨rfl, rfl⟩) | (refine wpList_load_row rfl 58 _ rfl ga rfl _ a.cells.toArray _ _ hA2.blk Try.underlying58 rfl (by rw [List.size_toArray, HLEN.out]; kernel_rfl) ?_) | (refine wpList_buildSlice_one rfl 51 58 _ rfl iA _ 36 a.cells Try.underlying51 hiA hzA hsA (by omega) (by omega) rfl HLEN.out ?_) | (at_builtin; refine wpList_append_turn _ rfl _ _ 51 51 58 rfl iA _ 36 72 Try.underlying51 hiA hzA hsA hbA rfl _ _ _ rfl HO.out _ rfl 1 _ HS.out ?_ ?_ ?_))
            case refine_1 => omega
            case refine_2 => omega
            intro ao3 c3 w3 hown3 ht3 hb3
            have hB4 := HB3.out.grow (d := a) (by simp) hown3 ht3 (Lib.hid (by simpa using hb3.out))
            have HB4 := Lib.hid hB4; clear hB4 hown3 ht3 hb3
            go_wp2
            refine ⟨⟨k + 1, _, ds ++ [a], by omega, by omega, by simp; omega, by go_num, HB4.out, ?_, ?_⟩, by simp [intOf]; omega⟩
            · rw [HBS.out, List.flatMap_append]
              simp [ActV.enc, show ¬ a.K < 4 from by omega, show ¬ a.K < 7 from by omega]
            · intro d hd
              rcases List.mem_append.1 hd with hd | hd
              · exact HDS.out d hd
              · simp at hd; subst hd; exact HG.out
          · have hbs2 := wrPut_isnt h0
            rw [hbs2] at hB2
            have hb0 : ((wrPut bs a.H).1 == 0) = false := by simpa using h0
            clear hbs2 h0
            generalize wrPut bs a.H = R at hb0 ⊢
            go_wp2_with (first | (go_at_call 19; refine (Num_any _ _).mono ?_; rintro e w9 ⟨rfl, rfl⟩))
            exact ⟨⟨k + 1, bs, ds, by omega, by omega, by omega, by go_num, hB2, HBS.out, HDS.out⟩, by simp [intOf]; omega⟩
    · have hpw : Pure w wr := by obtain ⟨_, _, _, _, _, h⟩ := hB; exact h
      obtain ⟨aod, cd, hvd, _⟩ : ∃ ao c, u4 = .slice ao ds.length c ∧ ds.length ≤ c := ownsRow_shape hB.row
      subst hvd
      have HBS := Lib.hid hbs; clear hbs
      have HDS := Lib.hid hds; clear hds
      have hrow := hB.row
      have HROW := Lib.hid hrow; clear hrow
      obtain ⟨vw, hw0, _⟩ := hB
      have hblen := hw0.len
      have hcases : (k < 40 ∧ ¬ k < xs.length) ∨ (¬ k < 40 ∧ k < xs.length) ∨ (¬ k < 40 ∧ ¬ k < xs.length) := by omega
      clear hlt hel
      have fin : True := trivial
      rcases hcases with ⟨hk1, hk2⟩ | ⟨hk1, hk2⟩ | ⟨hk1, hk2⟩
      all_goals
        go_wp2_with fail
        refine (WAll_any _ _ _ _ hw0).mono ?_
        rintro e w3 ⟨rfl, rfl⟩
        go_wp2_with fail
        refine (Open_own bs (Turn.refl _ wr) (by omega)).mono ?_
        rintro e w4 ⟨rfl, hR0⟩
        go_wp2_with fail
        generalize wr.heap.size = g2 at *
        obtain ⟨wo, rfl⟩ : ∃ wo : World, wo = wr := ⟨_, rfl⟩
        go_loopw [9] (fun i wx => ∃ k2 : Nat, k2 ≤ ds.length ∧ i = .int .i64 (k2 : Nat) ∧ OwnR wo wx g2 ((ds.drop k2).flatMap ActV.enc)) (fun i _ => ds.length - (intOf i).toNat)
        case atStart => exact ⟨0, by omega, rfl, by rw [List.drop_zero, ← HBS.out]; exact hR0⟩
        case round =>
          clear hR0 hw0
          obtain ⟨k2, hk2', rfl, hR⟩ := hrel
          by_cases hlt2 : k2 < ds.length
          · obtain ⟨d, hd⟩ : ∃ d, ds[k2]? = some d := ⟨ds[k2], by simp [hlt2]⟩
            have hgd := HDS.out d (List.mem_of_getElem? hd)
            have hsplit : (ds.drop k2).flatMap ActV.enc = d.enc ++ (ds.drop (k2 + 1)).flatMap ActV.enc := by
              rw [List.drop_eq_getElem_cons hlt2, List.flatMap_cons]
              rw [List.getElem?_eq_getElem hlt2] at hd
              rw [Option.some.inj hd]
            rw [hsplit] at hR
            clear hsplit
            rcases HROW.out.2 with ⟨_, h0⟩ | ⟨gb, capb, curb, hvb, _, hgb, _, _, _, _⟩
            · omega
            · simp at hvb
              obtain ⟨rfl, rfl⟩ := hvb
              have hrow2 := hR.pure.own HROW.out (fun _ _ e => e)
              have hrg := own_range hrow2 (fun x hx => ActV.len (HDS.out x hx).ok) k2 d hd
              rw [Nat.zero_add] at hrg
              have hlen := ActV.len hgd.ok
              have HLEN := Lib.hid hlen; clear hlen
              clear hrow2 hgb hd
              generalize hrest : (ds.drop (k2 + 1)).flatMap ActV.enc = rest at hR
              have HREST := Lib.hid hrest; clear hrest
              go_wp2_with (first | (refine wpList_load_mid rfl 58 _ rfl gb (k2 * 36) rfl d.cells _ hrg Try.underlying58 rfl (by rw [HLEN.out]; kernel_rfl) ?_) | (refine wpList_store_blk rfl 58 _ _ rfl wr.heap.size _ d.cells _ rfl rfl (heap_alloc_new _ _) (by rw [HLEN.out]; rfl) (by rw [HLEN.out]; kernel_rfl) d.one ?_))
              intro wa hca hta _
              have hpa : Pure wr wa := ((Turn.refl (fun _ => False) wr).alloc _).trans hta fun i hi e => by omega
              have h2 := hR.next hpa
              have hga : g2 < wr.heap.size := hR.rd.lt
              have hA : ActAt wa wr.heap.size d := ⟨hca⟩
              clear hta hrg hpa hR hca
              generalize wr.heap.size = ga at *
              have x0 := hA.c0
              have x2 := hA.c2
              by_cases hK4 : d.K < 4
              · go_wp2_with fail
                refine (RNum_any _ _ _ _ h2.rd).mono ?_
                rintro e wc ⟨rfl, hr⟩
                have hA3 := hA.next hr.turn (by omega)
                have h3 := h2.read hr
                rw [rdNum_enc hgd hK4] at h3 ⊢
                clear hr h2 x0 x2
                have x1 := hA3.c1
                have HREST2 := HREST.out
                subst HREST2
                go_wp2_with (go_at_call 19; refine (Num_any _ _).mono ?_; rintro e w9 ⟨rfl, rfl⟩)
                exact ⟨⟨k2 + 1, by omega, by go_num, h3⟩, by simp [intOf]; omega⟩
              · by_cases hK7 : d.K < 7
                · go_wp2_with fail
                  refine (RText_any _ _ _ _ h2.rd).mono ?_
                  rintro e wc ⟨rfl, hr⟩
                  have hA3 := hA.next hr.turn (by omega)
                  have h3 := h2.read hr
                  rw [rdText_enc hgd (by omega) hK7] at h3 ⊢
                  clear hr h2 x0 x2
                  have x1 := hA3.c3
                  have HREST2 := HREST.out
                  subst HREST2
                  go_wp2_with (go_at_call 19; refine (Num_any _ _).mono ?_; rintro e w9 ⟨rfl, rfl⟩)
                  exact ⟨⟨k2 + 1, by omega, by go_num, h3⟩, by simp [intOf]; omega⟩
                · go_wp2_with fail
                  refine (RHash_any _ _ _ h2.rd).mono ?_
                  rintro e wc ⟨rfl, hr⟩
                  have hA3 := hA.next hr.turn (by omega)
                  have h3 := h2.read hr
                  rw [rdHash_enc hgd (by omega) (by omega)] at h3 ⊢
                  have hgc : ga < wc.heap.size := (Array.getElem?_eq_some_iff.1 hA3.blk).1
                  clear hr h2 x0 x2
                  have HREST2 := HREST.out
                  subst HREST2
                  have hh := hgd.ok.hash
                  have HH := Lib.hid hh; clear hh
                  go_wp2_with (refine wpList_store_blk rfl 56 _ _ rfl wc.heap.size _ (u8s d.H) _ rfl rfl (heap_alloc_new _ _) (by rw [u8s_length, HH.out]; rfl) (by rw [u8s_length, HH.out]; kernel_rfl) (u8s_one _) ?_)
                  intro we hce hte hse
                  have hpe : Pure wc we := ((Turn.refl (fun _ => False) wc).alloc _).trans hte fun i hi e => by omega
                  have h4 := h3.next hpe
                  have x4 := (hA3.next hpe (fun e => e)).c4
                  clear hte h3
                  have HCE := Lib.hid hce; clear hce
                  generalize wc.heap.size = gc at *
                  have hne := fun W => neq_bytes (P := Try.prog) W 56 5 32 Try.underlying56 Try.underlying5 Try.sizeU8 d.H d.H HH.out HH.out
                  go_wp2_with (first | (refine wpList_load_row rfl 56 _ rfl gc rfl _ (u8s d.H).toArray _ _ HCE.out Try.underlying56 rfl (by rw [List.size_toArray, u8s_length, HH.out]; kernel_rfl) ?_) | (refine wpList_load_mid rfl 56 _ rfl ga 4 rfl (u8s d.H) _ x4 Try.underlying56 rfl (by rw [u8s_length, HH.out]; kernel_rfl) ?_) | (go_at_call 19; refine (Num_any _ _).mono ?_; rintro e w9 ⟨rfl, rfl⟩))
                  exact ⟨⟨k2 + 1, by omega, by go_num, h4⟩, by simp [intOf]; omega⟩
          · obtain rfl : k2 = ds.length := by omega
            rw [List.drop_length] at hR
            go_wp2_with (go_at_call 42; refine (RLeft_own hR).mono ?_; rintro e w9 ⟨rfl, rfl⟩)
            go_ret
            exact ⟨rfl, hpw.pure hR.pure⟩
end Go.Proofs.Ytjingpkgappblaa
