/- Package mlog: a leaf behind the others. -/
import Derived.Test.YtjbigghjbcjelaaTree
import Derived.Deep.DeepCutAuto
import Derived.Deep.AppendLies
namespace Go.Proofs.Ytjbigghjbcjelaa
open Go.RowKit

def pushR : List (Nat × List UInt8) → Nat × List UInt8 → List (Nat × List UInt8)
  | [], x => [x]
  | y :: t, x => if y.1 = x.1 then pushR t (2 * x.1, joinV y.2 x.2) else x :: y :: t
/-- Whole trees, a leaf's node behind them. -/
def pushV (rows : List (Nat × List UInt8)) (x : Nat × List UInt8) : List (Nat × List UInt8) := (pushR rows.reverse x).reverse
theorem pushV_nil (x : Nat × List UInt8) : pushV [] x = [x] := rfl
theorem pushV_eq (t : List (Nat × List UInt8)) (y x : Nat × List UInt8) (h : y.1 = x.1) : pushV (t ++ [y]) x = pushV t (2 * x.1, joinV y.2 x.2) := by
  simp [pushV, pushR, h]
theorem pushV_ne (t : List (Nat × List UInt8)) (y x : Nat × List UInt8) (h : y.1 ≠ x.1) : pushV (t ++ [y]) x = t ++ [y] ++ [x] := by
  simp [pushV, pushR, h]
theorem rowC_one {rows : List (Nat × List UInt8)} : ∀ u ∈ rowC rows, u.oneCell' = true := by
  intro u hu
  obtain ⟨p, _, hp⟩ := List.mem_flatMap.1 hu
  exact whC_one _ _ u hp

theorem info62 : (Try.prog.info? 62).map (·.size) = some 33 := by kernel_rfl
theorem zero62 : (Try.prog.info? 62).bind (·.zero) = some (.agg (whC 0 (List.replicate 32 0)).toArray) := by kernel_rfl
theorem ex62 : ∃ X : List Value, X.length = 33 ∧ Hid ((Try.prog.info? 62).bind (·.zero) = some (.agg X.toArray)) := ⟨_, rfl, Lib.hid zero62⟩
theorem all62 : (Try.prog.info? 62).map (fun i => (i.zero, i.size, i.bytes)) = some (some (.agg (whC 0 (List.replicate 32 0)).toArray), 33, 40) := by kernel_rfl
theorem parts62 : ∃ i z, Hid (Try.prog.info? 62 = some i) ∧ i.zero = some z ∧ i.size = 33 ∧ i.bytes = 40 ∧ z.cells.size = 33 := by
  have h := all62
  cases hi : Try.prog.info? 62 with
  | none => rw [hi] at h; simp at h
  | some i =>
    rw [hi] at h
    simp only [Option.map_some, Option.some.injEq, Prod.mk.injEq] at h
    exact ⟨i, _, Lib.hid rfl, h.1, h.2.1, h.2.2, by simp [Value.cells, whC, u8s]⟩
theorem wp_build62 {o : Oper} {a : Act} {w : World} {K : Act → World → Prop} {Q : Exit → Act → World → Prop} (x y : Operand) (ho : o.op = .build 62 #[(0, x), (1, y)]) (m : Int) (l : List UInt8) (hl : l.length = 32) (hx : a.eval x = .int .i64 m) (hy : a.eval y = hv l)
    (h : K (a.put o.dst (.agg (whC m l).toArray)) w) : o.wp Try.prog a w K Q := by
  have hb : Try.prog.built 62 ((#[(0, x), (1, y)] : Array (Nat × Operand)).map fun (i, x) => (i, a.eval x)).toList = some (whC m l).toArray := by
    rw [← built62 m l hl, ← hx, ← hy]; simp
  refine wp_build 62 _ ho (by rw [hb]; rfl) ?_
  rw [hb]
  exact h
theorem wpList_build62 {ops : Array Oper} {rest : List Oper} {o : Oper} {a : Act} {w : World} {Q : Exit → Act → World → Prop} (hg : o.guard = none) (x y : Operand) (ho : o.op = .build 62 #[(0, x), (1, y)]) (m : Int) (l : List UInt8) (hl : l.length = 32) (hx : a.eval x = .int .i64 m) (hy : a.eval y = hv l)
    (h : wpList Try.prog ops Q rest (a.put o.dst (.agg (whC m l).toArray)) w) : wpList Try.prog ops Q (o :: rest) a w :=
  wpList_plain hg fun _ hK => wp_build62 x y ho m l hl hx hy (hK _ _ h)
theorem wpSeqH_build62 {ops : Array Oper} {Q : Exit → Act → World → Prop} {S : World → Prop} {o : Oper} {rest : List Oper} {a : Act} {w : World} (hg : o.guard = none) (x y : Operand) (ho : o.op = .build 62 #[(0, x), (1, y)]) (m : Int) (l : List UInt8) (hl : l.length = 32) (hx : a.eval x = .int .i64 m) (hy : a.eval y = hv l)
    (h : S w ∧ wpSeqH Try.prog ops Q S rest (a.put o.dst (.agg (whC m l).toArray)) w) : wpSeqH Try.prog ops Q S (o :: rest) a w := by
  refine wpSeqH_step fun K hK => ?_
  rw [if_pos (by simp [Region.wanted, hg])]
  exact wp_build62 x y ho m l hl hx hy (hK.out _ _ h.1 h.2)
theorem wpSeqH_load_mid {P : Program} {ops : Array Oper} {Q : Exit → Act → World → Prop} {S : World → Prop} {op : Oper} {rest : List Oper} {a : Act} {w : World} (hgd : op.guard = none) (ty : TypeId) (x : Operand) (ho : op.op = .load ty x)
    (b o : Nat) (hx : a.eval x = .pointer (some ⟨b, o, none⟩)) (cs : List Value) (d : TypeDesc) (hc : w.rangeAt b o cs) (hu : P.underlying ty = some d) (hd : d.isRow = true) (hi : (P.info? ty).map (·.size) = some cs.length)
    (h : S w ∧ wpSeqH P ops Q S rest (a.put op.dst (.agg cs.toArray)) w) : wpSeqH P ops Q S (op :: rest) a w := by
  refine wpSeqH_step fun K hK => ?_
  rw [if_pos (by simp [Region.wanted, hgd])]
  exact wp_load_mid ty x ho b o hx cs d hc hu hd hi (hK.out _ _ h.1 h.2)
/-- A row of the program's own as what is appended. -/
theorem own_src {P : Program} {w : World} {e tx e' : TypeId} {size n : Nat} {v : Value} {xs : List Value} (hk : P.underlying tx = some (.slice e')) (ho : w.ownsRow 0 e size v n xs) (h1 : ∀ u ∈ xs, u.oneCell' = true) : Src P size tx v n xs w := by
  rcases ho.2 with ⟨rfl, rfl⟩ | ⟨gg, c, cur, rfl, _, hrest⟩
  · have hx : xs = [] := List.eq_nil_of_length_eq_zero (by simpa using ho.1)
    subst hx
    exact Src.ofNil w hk 0
  · exact Src.ofSlice w hk _ _ _ _ ho.1 (ho.cells (g := gg) rfl) h1
theorem own_take {w : World} {base : Nat} {e : TypeId} {size n j c : Nat} {ao : Option Addr} {xs : List Value} (ho : w.ownsRow base e size (.slice ao n c) n xs) (hj : j ≤ n) : w.ownsRow base e size (.slice ao j c) j (xs.take (j * size)) := by
  have hle : j * size ≤ n * size := Nat.mul_le_mul_right _ hj
  refine ⟨by rw [List.length_take, ho.1]; omega, ?_⟩
  rcases ho.2 with ⟨h1, h2⟩ | ⟨g, cap, cur, h1, h2, h3, h4, h5, h6, h7⟩
  · simp only [Value.slice.injEq] at h1
    obtain ⟨rfl, rfl, rfl⟩ := h1
    obtain rfl : j = 0 := by omega
    exact .inl ⟨rfl, rfl⟩
  · simp only [Value.slice.injEq] at h1
    obtain ⟨rfl, _, rfl⟩ := h1
    exact .inr ⟨g, c, cur, rfl, h2, h3, by omega, h5, h6, by rw [← h7, List.take_take, Nat.min_eq_left hle]⟩
theorem rowC_take {rows : List (Nat × List UInt8)} {j : Nat} (h : RowsOk rows) (hj : j ≤ rows.length) : rowC (rows.take j) = (rowC rows).take (j * 33) := by
  have h1 := rowC_app (rows.take j) (rows.drop j)
  rw [List.take_append_drop] at h1
  have h2 := rowC_length (rows := rows.take j) fun p hp => h p (List.mem_of_mem_take hp)
  rw [List.length_take, Nat.min_eq_left hj] at h2
  rw [h1, List.take_left' h2]
def lenV : Value → Nat
  | .slice _ n _ => n
  | _ => 0

set_option maxRecDepth 100000 in
set_option maxHeartbeats 1000000 in
theorem TAppend_any (w : World) (g : Nat) (v : Value) (rows : List (Nat × List UInt8)) (tn : Nat) (s : List UInt8) (h : TreeAt w g v rows tn) (hs : s.length ≤ 140737488351232) (hm : ∀ p ∈ rows, p.1 ≤ 2305843009213693952) (hn : tn ≤ 4611686018427387904) (hrl : rows.length ≤ 1000) :
    Calls Try.prog 17 #[.pointer (some ⟨g, 0, none⟩), .string (bstr s)] w fun e w' => e = .returned (.tuple #[]) ∧
      ∃ v', TreeAt w' g v' (pushV rows (1, leafV s)) (tn + 1) ∧ (∀ k, v'.ownBlock = some k → w.heap.size ≤ k) ∧ Turn (fun k => k = g) w w' := by
  obtain ⟨X, hXl, HZ⟩ := ex62
  obtain ⟨i62, z62, HI, hz62, hsz, hby, hzs⟩ := parts62
  have hi := HI.out
  have hg := (Array.getElem?_eq_some_iff.1 h.at_).1
  have hvg := fun k hk => (h.own.lt k hk).2
  have HT := Lib.hid h; clear h
  have HM := Lib.hid hm; clear hm
  have HVG := Lib.hid hvg; clear hvg
  obtain ⟨lf, hlf⟩ : ∃ lf, lf = leafV s := ⟨_, rfl⟩
  have hll : lf.length = 32 := by rw [hlf]; exact leafV_length s
  have HLF := Lib.hid hlf; clear hlf
  rw [← HLF.out]
  have hisz : (Try.prog.info? 62).map (·.size) = some (whC 1 lf).length := by rw [whC_length 1 hll]; exact info62
  have HISZ := Lib.hid hisz; clear hisz
  go_enter Try.func17, Try.ntmps17
  go_wp2_with fail
  refine (Leaf_any _ s hs).mono ?_
  rintro e w1 ⟨rfl, t1⟩
  rw [← HLF.out]
  have P1 := Lib.hid t1; clear t1
  go_wp2_with (first | (refine wpList_build62 rfl _ _ rfl 1 lf hll rfl rfl ?_) | (refine wpList_allocZ rfl 62 rfl X HZ.out ?_))
  intro g4 w2 e2 c2 t2 s2
  have l4 : w.heap.size ≤ g4 := by have := P1.out.size; omega
  have P2 := Lib.hid (P1.out.pure t2)
  clear e2 t2 s2 P1
  go_wp2_with (refine wpList_store_blk rfl 62 _ _ rfl g4 _ (whC 1 lf) _ rfl rfl c2 (by rw [List.size_toArray, hXl, whC_length 1 hll]) HISZ.out (whC_one _ _) ?_)
  intro w3 c3 t3 s3
  have C3 := Lib.hid c3
  have P3 : Hid (Pure w w3) := Lib.hid (P2.out.trans t3 fun i hi e => by omega)
  clear c2 c3 t3 P2 s3
  have hT3 := HT.out.turn P3.out (fun e => e) (fun _ _ e => e)
  have c00 := hT3.c0
  have hsrc : Src Try.prog 33 58 v rows.length (rowC rows) w3 := own_src Try.underlying58 hT3.own rowC_one
  have HSRC := Lib.hid hsrc; clear hsrc hT3
  go_wp2_with (at_builtin; refine wpList_append_turn _ rfl _ _ 58 58 62 rfl i62 z62 33 40 Try.underlying58 hi hz62 hsz hby hzs (.slice none 0 0) _ _ rfl (World.ownsRow_nil _ _ _ _) _ rfl rows.length _ HSRC.out ?_ ?_ ?_)
  all_goals first | omega | skip
  intro ao c w5 hown ht5 hb5
  have hpt : Pure w3 w5 := ht5.mono fun k _ e => by simp [Value.ownBlock] at e
  have hg4 : g4 < w3.heap.size := (Array.getElem?_eq_some_iff.1 C3.out).1
  have hnew : ∀ k, (Value.slice ao rows.length c).ownBlock = some k → k = w3.heap.size := by
    intro k hk
    rcases hb5.out with e | e
    · rw [e] at hk; simp [Value.ownBlock] at hk
    · rw [e] at hk; exact (Option.some.inj hk).symm
  generalize w3.heap.size = gb at hnew hg4
  have HNEW : Hid (∀ k n', (Value.slice ao n' c).ownBlock = some k → k = gb) := Lib.hid fun k n' hk => hnew k (by rw [← hk]; cases ao <;> rfl)
  have HOWN := Lib.hid hown
  have P5 := Lib.hid (P3.out.pure hpt)
  have C5 := Lib.hid (hpt.obj C3.out (fun e => e))
  have HOK := Lib.hid HT.out.ok
  clear hnew hown hpt ht5 hb5 HSRC c00 C3 P3
  go_wp2
  go_loopw [5] (fun v wr => ∃ (j xm : Nat) (xr : List UInt8), j ≤ rows.length ∧ v = .slice ao j c ∧ xr.length = 32 ∧ xm ≤ 4611686018427387904 ∧ pushV (rows.take j) (xm, xr) = pushV rows (1, lf) ∧ Hid (wr.heap[g4]? = some (.cells (whC (xm : Int) xr).toArray 62 (0, 0))) ∧ Turn (fun b => b = g4) w5 wr) (fun v _ => lenV v)
  case atStart => exact ⟨rows.length, 1, lf, Nat.le_refl _, rfl, hll, by omega, by rw [List.take_length], C5, Turn.refl _ _⟩
  case round =>
    obtain ⟨j, xm, xr, hj, rfl, hxl, hxm, hpv, HC, ht⟩ := hrel
    by_cases hj0 : j = 0
    · subst hj0
      have hd : decide ((0 : Int) < ((0 : Nat) : Int)) = false := rfl
      have hd2 : ¬ ((0 : Int) < ((0 : Nat) : Int)) := by omega
      have hfin : rows.take 0 ++ [(xm, xr)] = pushV rows (1, lf) := by rw [List.take_zero, pushV_nil] at hpv; exact hpv
      go_wp2_with fail
      go_quiet (fail)
      have ht := ht.drewN nq
      have HC := Lib.hid (show (wr.drewN nq).heap[g4]? = _ from HC.out)
      generalize wr.drewN nq = wr at *
      have HO := Lib.hid (show wr.ownsRow 0 62 33 (.slice ao 0 c) 0 (rowC (rows.take 0)) from by rw [rowC_take HOK.out (by omega)]; exact ht.own (own_take HOWN.out (by omega)) (fun k hk e => by have := HNEW.out _ _ hk; omega))
      have hwl : (whC (xm : Int) xr).length = 33 := whC_length _ hxl
      have HWL := Lib.hid hwl
      have hi62 : (Try.prog.info? 62).map (·.size) = some (whC (xm : Int) xr).toArray.size := by rw [List.size_toArray, hwl]; exact info62
      have HI62 := Lib.hid hi62
      have HP := Lib.hid ((P5.out.trans ht fun i hi e => by omega : Pure w wr))
      have hT6 := HT.out.turn HP.out (fun e => e) (fun _ _ e => e)
      have HT6 := Lib.hid hT6
      have HRW := Lib.hid hfin
      have hsw : w.heap.size ≤ wr.heap.size := HP.out.size
      have hjb : 0 ≤ 1000 := by omega
      have HXL := Lib.hid hxl
      have HJL := Lib.hid hj
      have hwb : w.heap.size ≤ gb := by omega
      clear hpv hfin hwl hi62 ht hxl hxm hT6 hj
      go_wp2_with (first | (refine wpList_load_row rfl 62 _ rfl g4 rfl _ (whC (xm : Int) xr).toArray _ _ HC.out Try.underlying62 rfl HI62.out ?_) | (refine wpList_buildSlice_one rfl 58 62 _ rfl i62 z62 33 (whC (xm : Int) xr) Try.underlying58 hi hz62 hsz (by omega) (by omega) rfl HWL.out ?_) | (at_builtin; refine wpList_append_turn _ rfl _ _ 58 58 62 rfl i62 z62 33 40 Try.underlying58 hi hz62 hsz hby hzs (.slice ao 0 c) _ _ rfl (HO.out.alloc _) _ rfl 1 (whC (xm : Int) xr) (Src.ofSlice _ Try.underlying58 _ _ _ _ (by rw [HWL.out]) (World.news_of_block (heap_alloc_new wr _)) (whC_one _ _)) (by omega) (by omega) ?_))
      intro ao8 c8 w8 hown8 ht8 hb8
      have ht8 : Turn (fun k => k = gb) wr w8 := ((Turn.refl (fun k => k = gb) wr).alloc _).trans (ht8.mono fun k _ e => HNEW.out k _ e) fun _ _ e => e
      have hb8 : ∀ k, (Value.slice ao8 (0 + 1) c8).ownBlock = some k → w.heap.size ≤ k := by
        intro k hk
        rcases hb8.out with e | e
        · rw [e] at hk; have := HNEW.out _ _ hk; omega
        · rw [e] at hk; have := Option.some.inj hk; omega
      have hat8 := ht8.obj HT6.out.at_ (by omega)
      have c0 : w8.cell? ⟨g, 0, none⟩ = some v := by rw [cell_of_row w8 g 0 _ _ _ hat8]; rfl
      have f0 := frozen_of_row w8 g 0 _ _ hat8
      have G9 : (w8.setCell ⟨g, 0, none⟩ (.slice ao8 (0 + 1) c8)).heap[g]? = some (.cells #[.slice ao8 (0 + 1) c8, .int .i64 (tn : Int)] 60 (0, 0)) := heap_set_cell hat8
      have c1 : (w8.setCell ⟨g, 0, none⟩ (.slice ao8 (0 + 1) c8)).cell? ⟨g, 1, none⟩ = some (.int .i64 (tn : Int)) := by rw [cell_of_row _ g 1 _ _ _ G9]; rfl
      have f1 := frozen_of_row _ g 1 _ _ G9
      have i1 : IntKind.i64.wrap ((tn : Int) + 1) = ((tn + 1 : Nat) : Int) := by rw [IntWalk.i64_in _ (by omega)]; omega
      have i2 : ((tn + 1 : Nat) : Int) = (tn : Int) + 1 := by omega
      have T9 : Turn (fun k => k = g) w ((w8.setCell ⟨g, 0, none⟩ (.slice ao8 (0 + 1) c8)).setCell ⟨g, 1, none⟩ (.int .i64 ((tn : Int) + 1))) := (((((Turn.refl (fun k => k = g) w).pure HP.out).trans ht8 fun i hi e => by omega).setCell (fun _ => rfl) _).setCell (fun _ => rfl) _)
      have G10 : ((w8.setCell ⟨g, 0, none⟩ (.slice ao8 (0 + 1) c8)).setCell ⟨g, 1, none⟩ (.int .i64 ((tn : Int) + 1))).heap[g]? = some (.cells #[.slice ao8 (0 + 1) c8, .int .i64 ((tn + 1 : Nat) : Int)] 60 (0, 0)) := (heap_set_cell G9).trans (by rw [i2]; rfl)
      have O10 : ((w8.setCell ⟨g, 0, none⟩ (.slice ao8 (0 + 1) c8)).setCell ⟨g, 1, none⟩ (.int .i64 ((tn : Int) + 1))).ownsRow 0 62 33 (.slice ao8 (0 + 1) c8) (0 + 1) (rowC (rows.take 0) ++ whC (xm : Int) xr) := (((Turn.refl (fun k => k = g) w8).setCell (fun _ => rfl) _).setCell (fun _ => rfl) _).own hown8 (fun k hk e => by have := hb8 k hk; omega)
      have hlen : (pushV rows (1, lf)).length = 0 + 1 := by rw [← HRW.out, List.length_append, List.length_take, Nat.min_eq_left HJL.out]; rfl
      have hrc : rowC (pushV rows (1, lf)) = rowC (rows.take 0) ++ whC (xm : Int) xr := by rw [← HRW.out, rowC_app]; simp [rowC]
      have hok10 : RowsOk (pushV rows (1, lf)) := by
        rw [← HRW.out]
        intro p hp
        rcases List.mem_append.1 hp with h | h
        · exact HOK.out p (List.mem_of_mem_take h)
        · obtain rfl := List.mem_singleton.1 h; exact HXL.out
      have HF := Lib.hid (And.intro (show TreeAt _ g (.slice ao8 (0 + 1) c8) (pushV rows (1, lf)) (tn + 1) from ⟨G10, by rw [hlen, hrc]; exact O10, fun e => by have := hb8 g e; omega, hok10⟩) (And.intro hb8 T9))
      clear hok10 hrc hlen O10 G10 T9 G9 hat8 ht8 hown8 hb8 i2 hjb HC HO HRW
      go_wp2
      try simp only [Exit.inBlock, Exit.then]
      exact bodyPost_end (results_none rfl _ _ _) rfl ⟨rfl, _, HF.out⟩
    · obtain ⟨k, hk⟩ : ∃ k, j = k + 1 := ⟨j - 1, by omega⟩
      have hkr : k < rows.length := by omega
      obtain ⟨y, hy⟩ : ∃ y, y = rows[k] := ⟨_, rfl⟩
      have hyl : y.2.length = 32 := by rw [hy]; exact HOK.out _ (List.getElem_mem hkr)
      have hym : y.1 ≤ 2305843009213693952 := by rw [hy]; exact HM.out _ (List.getElem_mem hkr)
      have htk : rows.take j = rows.take k ++ [y] := by rw [hk, List.take_succ_eq_append_getElem hkr, hy]
      obtain ⟨gbb, hao⟩ : ∃ gbb, ao = some ⟨gbb, 0, none⟩ := by
        rcases HOWN.out.2 with ⟨_, h2⟩ | ⟨g9, cap, cur, h1, _⟩
        · omega
        · simp only [Value.slice.injEq] at h1; exact ⟨g9, h1.1⟩
      subst hao
      obtain rfl : gbb = gb := HNEW.out gbb 0 rfl
      have hcj : j ≤ c := by
        rcases HOWN.out.2 with ⟨_, h2⟩ | ⟨g9, cap, cur, h1, _, _, h5, _⟩
        · omega
        · simp only [Value.slice.injEq] at h1; obtain ⟨_, _, rfl⟩ := h1; omega
      have hcm : c ≤ 9223372036854775807 := by
        rcases HOWN.out.2 with ⟨_, h2⟩ | ⟨g9, cap, cur, h1, _, _, _, h6, _⟩
        · omega
        · simp only [Value.slice.injEq] at h1; obtain ⟨_, _, rfl⟩ := h1; exact h6
      have hrange : ∀ i u, (whC (y.1 : Int) y.2)[i]? = some u → wr.cell? ⟨gbb, k * 33 + i, none⟩ = some u := by
        intro i u hu
        have h1 := HOWN.out.cells (g := gbb) rfl (k * 33 + i) u (rowC_at rows k y HOK.out (by rw [hy]; simp) i u hu)
        rw [Addr.add_mid, Nat.zero_add] at h1
        exact ht.cell h1 (by show ¬ gbb = g4; omega)
      have cy : wr.cell? ⟨gbb, k * 33, none⟩ = some (.int .i64 (y.1 : Int)) := hrange 0 _ rfl
      have hra : wr.rangeAt gbb (k * 33 + 1) (u8s y.2) := fun i u hu => by
        have := hrange (i + 1) u (by simpa [whC] using hu)
        rwa [← Nat.add_assoc, Nat.add_right_comm] at this
      have cx : wr.cell? ⟨g4, 0, none⟩ = some (.int .i64 (xm : Int)) := by rw [cell_of_row wr g4 0 _ _ _ HC.out]; rfl
      have hrx : wr.rangeAt g4 1 (u8s xr) := fun i u hu => by
        rw [cell_of_row wr g4 (1 + i) _ _ _ HC.out, List.getElem?_toArray, Nat.add_comm]
        simpa [whC] using hu
      have q1 : IntKind.i64.wrap ((j : Int) - 1) = (k : Int) := by rw [IntWalk.i64_in _ (by omega)]; omega
      have q2 : (0 : Int) < j := by omega
      have q3 : decide ((0 : Int) < (j : Int)) = true := decide_eq_true q2
      have q3n : decide (0 < j) = true := decide_eq_true (by omega)
      have q2n : 0 < j := by omega
      have q4 : (0 : Int) ≤ k := by omega
      have q5 : (k : Int) < j := by omega
      obtain ⟨ym, yr⟩ := y
      simp only at hyl hym cy hra htk
      by_cases hyx : ym = xm
      · subst hyx
        have be : ((ym : Int) == (ym : Int)) = true := by simp
        have hfin2 : pushV (rows.take k) (2 * ym, joinV yr xr) = pushV rows (1, lf) := by rw [← hpv, htk, pushV_eq _ (ym, yr) (ym, xr) rfl]
        obtain ⟨m2, hm2⟩ : ∃ m2, m2 = 2 * ym := ⟨_, rfl⟩
        rw [← hm2] at hfin2
        have i2 : IntKind.i64.wrap (2 * (ym : Int)) = (m2 : Int) := by rw [IntWalk.i64_in _ (by omega)]; omega
        have hmb : m2 ≤ 4611686018427387904 := by omega
        have HF2 := Lib.hid hfin2
        have HK := Lib.hid hk
        have HKR := Lib.hid hkr
        have HJ2 := Lib.hid hj
        clear hfin2 hpv hk htk hrange hm2 hym hxm
        have be3 : (ym == ym) = true := by simp
        have be4 : decide (ym = ym) = true := by simp
        go_wp2_with fail
        go_quiet (fail)
        have ht := ht.drewN nq
        have HC := Lib.hid (show (wr.drewN nq).heap[g4]? = _ from HC.out)
        have hra : (wr.drewN nq).rangeAt gbb (k * 33 + 1) (u8s yr) := hra
        have hrx : (wr.drewN nq).rangeAt g4 1 (u8s xr) := hrx
        have cx : (wr.drewN nq).cell? ⟨g4, 0, none⟩ = some (.int .i64 (ym : Int)) := cx
        clear cy
        generalize wr.drewN nq = wr at *
        have hu28 := Try.underlying28
        have hxi := info28_l hxl
        have hyi := info28_l hyl
        have hq33 : (Try.prog.info? 62).map (·.size) = some (whC (m2 : Int) (joinV yr xr)).length := by rw [whC_length _ (joinV_length _ _)]; exact info62
        have hq34 : (whC (ym : Int) xr).toArray.size = (whC (m2 : Int) (joinV yr xr)).length := by rw [List.size_toArray, whC_length _ hxl, whC_length _ (joinV_length _ _)]
        have HQ := Lib.hid (And.intro hxi (And.intro hyi (And.intro hq33 hq34))); clear hxi hyi hq33 hq34
        go_upto_region 4 with fail
        go_cut [] (fun wx => wx.heap[g4]? = some (.cells (whC (m2 : Int) (joinV yr xr)).toArray 62 (0, 0)) ∧ Turn (fun b => b = g4) wr wx)
        case first =>
          refine wp_region_held_drew (S := fun w' => w'.rangeAt gbb (k * 33 + 1) (u8s yr)) (by kernel_rfl) hra (fun hHeld => ?_)
          refine wpAnyH_take (i := 0) (v := .pointer (some ⟨g4, 0, none⟩)) rfl (by kernel_rfl) (by kernel_rfl) (by kernel_rfl) (fun _ _ _ h => h) (Or.inl ⟨by rfl, fun w hSw => by go_simp⟩) hHeld ?_
          simp only [List.getElem_toArray, List.getElem_cons_zero, Act.put, List.setIfInBounds_toArray, List.set_cons_zero, List.set_cons_succ]
          refine wpAnyH_take (i := 3) (v := .slice (some ⟨gbb, 0, none⟩) j c) rfl (by kernel_rfl) (by kernel_rfl) (by kernel_rfl) (fun _ _ _ h => h) (Or.inl ⟨by rfl, fun w hSw => by go_simp⟩) hHeld ?_
          simp only [List.getElem_toArray, List.getElem_cons_succ, List.getElem_cons_zero, Act.put, List.setIfInBounds_toArray, List.set_cons_zero, List.set_cons_succ]
          refine wpAnyH_take (i := 4) (v := .slice (some ⟨gbb, 0, none⟩) j c) rfl (by kernel_rfl) (by kernel_rfl) (by kernel_rfl) (fun _ _ _ h => h) (Or.inl ⟨by rfl, fun w hSw => by go_simp⟩) hHeld ?_
          simp only [List.getElem_toArray, List.getElem_cons_succ, List.getElem_cons_zero, Act.put, List.setIfInBounds_toArray, List.set_cons_zero, List.set_cons_succ]
          refine wpAnyH_take (i := 5) (v := .int .i64 (j : Int)) rfl (by kernel_rfl) (by kernel_rfl) (by kernel_rfl) (fun _ _ _ h => h) (Or.inl ⟨by rfl, fun w hSw => by go_simp⟩) hHeld ?_
          simp only [List.getElem_toArray, List.getElem_cons_succ, List.getElem_cons_zero, Act.put, List.setIfInBounds_toArray, List.set_cons_zero, List.set_cons_succ]
          refine wpAnyH_take (i := 6) (v := .int .i64 (k : Int)) rfl (by kernel_rfl) (by kernel_rfl) (by kernel_rfl) (fun _ _ _ h => h) (Or.inl ⟨by rfl, fun w hSw => by go_simp⟩) hHeld ?_
          simp only [List.getElem_toArray, List.getElem_cons_succ, List.getElem_cons_zero, Act.put, List.setIfInBounds_toArray, List.set_cons_zero, List.set_cons_succ]
          refine wpAnyH_take (i := 7) (v := .pointer (some ⟨gbb, k * 33, none⟩)) rfl (by kernel_rfl) (by kernel_rfl) (by kernel_rfl) (fun _ _ _ h => h) (Or.inl ⟨by rfl, fun w hSw => by go_simp⟩) hHeld ?_
          simp only [List.getElem_toArray, List.getElem_cons_succ, List.getElem_cons_zero, Act.put, List.setIfInBounds_toArray, List.set_cons_zero, List.set_cons_succ]
          refine wpAnyH_take (i := 8) (v := .pointer (some ⟨gbb, k * 33 + 1, none⟩)) rfl (by kernel_rfl) (by kernel_rfl) (by kernel_rfl) (fun _ _ _ h => h) (Or.inl ⟨by rfl, fun w hSw => by go_simp⟩) hHeld ?_
          simp only [List.getElem_toArray, List.getElem_cons_succ, List.getElem_cons_zero, Act.put, List.setIfInBounds_toArray, List.set_cons_zero, List.set_cons_succ]
          refine wpAnyH_take (i := 9) (v := hv yr) rfl (by kernel_rfl) (by kernel_rfl) (by kernel_rfl) (fun _ _ _ h => h) (yieldsIf_load_mid (by rfl) 28 _ rfl gbb (k * 33 + 1) rfl (u8s yr) _ (fun w h => h) hu28 rfl HQ.out.2.1) hHeld ?_
          simp only [List.getElem_toArray, List.getElem_cons_succ, List.getElem_cons_zero, Act.put, List.setIfInBounds_toArray, List.set_cons_zero, List.set_cons_succ]
          refine wpAnyH_take (i := 10) (v := .pointer (some ⟨g4, 1, none⟩)) rfl (by kernel_rfl) (by kernel_rfl) (by kernel_rfl) (fun _ _ _ h => h) (Or.inl ⟨by rfl, fun w hSw => by go_simp⟩) hHeld ?_
          simp only [List.getElem_toArray, List.getElem_cons_succ, List.getElem_cons_zero, Act.put, List.setIfInBounds_toArray, List.set_cons_zero, List.set_cons_succ]
          have CC := Lib.hid (show wr.drew.heap[g4]? = _ from HC.out)
          have TT := Lib.hid (show Turn (fun b => b = g4) wr wr.drew from (Turn.refl _ wr).drew)
          have cx : wr.drew.cell? ⟨g4, 0, none⟩ = some (.int .i64 (ym : Int)) := cx
          have HX := Lib.hid (show wr.drew.rangeAt g4 1 (u8s xr) from hrx)
          have HS := Lib.hid hHeld
          clear hHeld hrx hra HC ht
          generalize wr.drew = w4 at *
          refine wpAnyH_ready (rs := [1, 11]) (by kernel_rfl) (by simp) (AllReadyH.cons rfl (fun K hK => ?_) (AllReadyH.cons rfl (fun K hK => ?_) AllReadyH.nil))
          · go_simp
            refine hK.out _ _ HS.out (fun _ => ?_)
            clear hK K
            try simp only [List.getElem_toArray, List.getElem_cons_succ, List.getElem_cons_zero, Act.put, List.setIfInBounds_toArray, List.set_cons_zero, List.set_cons_succ]
            refine wpAnyH_take (i := 2) (v := .int .i64 (m2 : Int)) rfl (by kernel_rfl) (by kernel_rfl) (by kernel_rfl) (fun _ _ _ h => h) (Or.inl ⟨by rfl, fun w hSw => by go_simp⟩) HS.out ?_
            simp only [List.getElem_toArray, List.getElem_cons_succ, List.getElem_cons_zero, Act.put, List.setIfInBounds_toArray, List.set_cons_zero, List.set_cons_succ]
            refine wpAnyH_seq [11, 12, 13, 14] _ _ _ _ (by kernel_rfl) (by simp) ?_
            simp only [List.filterMap_cons, List.filterMap_nil, List.getElem?_toArray, List.getElem?_cons_zero, List.getElem?_cons_succ]
            refine wpSeqH_load_mid rfl 28 _ rfl g4 1 rfl (u8s xr) _ HX.out hu28 rfl HQ.out.1 ⟨HS.out, ?_⟩
            refine wpSeqH_step fun K hK => ?_
            go_simp
            refine (Join_any _ yr xr hyl hxl).mono ?_
            rintro e w8 ⟨rfl, t8⟩
            have C8 := Lib.hid (t8.obj CC.out (fun e => e))
            have T8 := Lib.hid (TT.out.pure t8)
            have HS8 := Lib.hid (t8.range HS.out (fun e => e))
            refine hK.out _ _ HS8.out ?_
            clear hK K t8 CC TT HS
            refine wpSeqH_build62 rfl _ _ rfl (m2 : Int) (joinV yr xr) (joinV_length _ _) rfl rfl ⟨HS8.out, ?_⟩
            refine wpSeqH_store_blk rfl 62 _ _ rfl g4 _ (whC (m2 : Int) (joinV yr xr)) _ rfl rfl C8.out HQ.out.2.2.2 HQ.out.2.2.1 (whC_one _ _) ?_
            intro w9 c9 t9 _
            refine ⟨t9.range HS8.out (by omega), wpSeqH_nil ?_⟩
            have T9 := Lib.hid (T8.out.trans t9 fun _ _ e => e)
            have C9 := Lib.hid c9
            clear t9 c9 T8 C8 HS8
            go_wp2_with fail
            go_meet
            exact ⟨C9.out, T9.out⟩
          · rw [if_pos (by rfl)]
            refine wp_load_mid 28 _ rfl g4 1 rfl (u8s xr) _ HX.out hu28 rfl HQ.out.1 ?_
            refine hK.out _ _ HS.out (fun _ => ?_)
            clear hK K
            try simp only [List.getElem_toArray, List.getElem_cons_succ, List.getElem_cons_zero, Act.put, List.setIfInBounds_toArray, List.set_cons_zero, List.set_cons_succ]
            refine wpAnyH_ready (rs := [1, 12]) (by kernel_rfl) (by simp) (AllReadyH.cons rfl (fun K hK => ?_) (AllReadyH.cons rfl (fun K hK => ?_) AllReadyH.nil))
            · go_simp
              refine hK.out _ _ HS.out (fun _ => ?_)
              clear hK K
              try simp only [List.getElem_toArray, List.getElem_cons_succ, List.getElem_cons_zero, Act.put, List.setIfInBounds_toArray, List.set_cons_zero, List.set_cons_succ]
              refine wpAnyH_take (i := 2) (v := .int .i64 (m2 : Int)) rfl (by kernel_rfl) (by kernel_rfl) (by kernel_rfl) (fun _ _ _ h => h) (Or.inl ⟨by rfl, fun w hSw => by go_simp⟩) HS.out ?_
              simp only [List.getElem_toArray, List.getElem_cons_succ, List.getElem_cons_zero, Act.put, List.setIfInBounds_toArray, List.set_cons_zero, List.set_cons_succ]
              refine wpAnyH_seq [12, 13, 14] _ _ _ _ (by kernel_rfl) (by simp) ?_
              simp only [List.filterMap_cons, List.filterMap_nil, List.getElem?_toArray, List.getElem?_cons_zero, List.getElem?_cons_succ]
              refine wpSeqH_step fun K hK => ?_
              go_simp
              refine (Join_any _ yr xr hyl hxl).mono ?_
              rintro e w8 ⟨rfl, t8⟩
              have C8 := Lib.hid (t8.obj CC.out (fun e => e))
              have T8 := Lib.hid (TT.out.pure t8)
              have HS8 := Lib.hid (t8.range HS.out (fun e => e))
              refine hK.out _ _ HS8.out ?_
              clear hK K t8 CC TT HS
              refine wpSeqH_build62 rfl _ _ rfl (m2 : Int) (joinV yr xr) (joinV_length _ _) rfl rfl ⟨HS8.out, ?_⟩
              refine wpSeqH_store_blk rfl 62 _ _ rfl g4 _ (whC (m2 : Int) (joinV yr xr)) _ rfl rfl C8.out HQ.out.2.2.2 HQ.out.2.2.1 (whC_one _ _) ?_
              intro w9 c9 t9 _
              refine ⟨t9.range HS8.out (by omega), wpSeqH_nil ?_⟩
              have T9 := Lib.hid (T8.out.trans t9 fun _ _ e => e)
              have C9 := Lib.hid c9
              clear t9 c9 T8 C8 HS8
              go_wp2_with fail
              go_meet
              exact ⟨C9.out, T9.out⟩
            · go_simp
              refine (Join_any _ yr xr hyl hxl).mono ?_
              rintro e w8 ⟨rfl, t8⟩
              have cx : w8.cell? ⟨g4, 0, none⟩ = some (.int .i64 (ym : Int)) := t8.cell cx (fun e => e)
              have C8 := Lib.hid (t8.obj CC.out (fun e => e))
              have T8 := Lib.hid (TT.out.pure t8)
              have HS8 := Lib.hid (t8.range HS.out (fun e => e))
              refine hK.out _ _ HS8.out (fun _ => ?_)
              clear hK K t8 CC TT HS
              try simp only [List.getElem_toArray, List.getElem_cons_succ, List.getElem_cons_zero, Act.put, List.setIfInBounds_toArray, List.set_cons_zero, List.set_cons_succ]
              refine wpAnyH_step (i := 1) (by kernel_rfl) rfl fun K hK => ?_
              go_simp
              refine hK.out _ _ HS8.out ?_
              clear hK K
              try simp only [List.getElem_toArray, List.getElem_cons_succ, List.getElem_cons_zero, Act.put, List.setIfInBounds_toArray, List.set_cons_zero, List.set_cons_succ]
              refine wpAnyH_take (i := 2) (v := .int .i64 (m2 : Int)) rfl (by kernel_rfl) (by kernel_rfl) (by kernel_rfl) (fun _ _ _ h => h) (Or.inl ⟨by rfl, fun w hSw => by go_simp⟩) HS8.out ?_
              simp only [List.getElem_toArray, List.getElem_cons_succ, List.getElem_cons_zero, Act.put, List.setIfInBounds_toArray, List.set_cons_zero, List.set_cons_succ]
              refine wpAnyH_seq [13, 14] _ _ _ _ (by kernel_rfl) (by simp) ?_
              simp only [List.filterMap_cons, List.filterMap_nil, List.getElem?_toArray, List.getElem?_cons_zero, List.getElem?_cons_succ]
              refine wpSeqH_build62 rfl _ _ rfl (m2 : Int) (joinV yr xr) (joinV_length _ _) rfl rfl ⟨HS8.out, ?_⟩
              refine wpSeqH_store_blk rfl 62 _ _ rfl g4 _ (whC (m2 : Int) (joinV yr xr)) _ rfl rfl C8.out HQ.out.2.2.2 HQ.out.2.2.1 (whC_one _ _) ?_
              intro w9 c9 t9 _
              refine ⟨t9.range HS8.out (by omega), wpSeqH_nil ?_⟩
              have T9 := Lib.hid (T8.out.trans t9 fun _ _ e => e)
              have C9 := Lib.hid c9
              clear t9 c9 T8 C8 HS8
              go_wp2_with fail
              go_meet
              exact ⟨C9.out, T9.out⟩
        case rest =>
          obtain ⟨hc9, t9⟩ := hcut
          have T9 := Lib.hid (ht.trans t9 fun _ _ e => e)
          have HC9 := Lib.hid hc9
          clear hc9 t9 ht HC hra hrx cx
          have q6 : (k : Int) ≤ j := by omega
          have q7 : (k : Int) ≤ c := by omega
          have q8 : ¬ c = 0 := by omega
          go_wp2
          exact ⟨⟨k, m2, joinV yr xr, by have := HKR.out; omega, rfl, joinV_length _ _, hmb, HF2.out, HC9, T9.out⟩, by have := HK.out; simp only [lenV]; omega⟩
      · have be : ((ym : Int) == (xm : Int)) = false := by simp; omega
        have be2 : ¬ ((ym : Int) = (xm : Int)) := by omega
        have be3 : (ym == xm) = false := by simp [hyx]
        have be4 : decide (ym = xm) = false := by simp [hyx]
        have hfin : rows.take j ++ [(xm, xr)] = pushV rows (1, lf) := by rw [← hpv, htk, pushV_ne _ _ _ hyx]
        have HY := Lib.hid (And.intro hk trivial); clear hrange hra hrx htk hyx hk
        go_wp2_with fail
        go_quiet (fail)
        have ht := ht.drewN nq
        have HC := Lib.hid (show (wr.drewN nq).heap[g4]? = _ from HC.out)
        clear cy cx
        generalize wr.drewN nq = wr at *
        have HO := Lib.hid (show wr.ownsRow 0 62 33 (.slice (some ⟨gbb, 0, none⟩) j c) j (rowC (rows.take j)) from by rw [rowC_take HOK.out (by omega)]; exact ht.own (own_take HOWN.out (by omega)) (fun k hk e => by have := HNEW.out _ _ hk; omega))
        have hwl : (whC (xm : Int) xr).length = 33 := whC_length _ hxl
        have HWL := Lib.hid hwl
        have hi62 : (Try.prog.info? 62).map (·.size) = some (whC (xm : Int) xr).toArray.size := by rw [List.size_toArray, hwl]; exact info62
        have HI62 := Lib.hid hi62
        have HP := Lib.hid ((P5.out.trans ht fun i hi e => by omega : Pure w wr))
        have hT6 := HT.out.turn HP.out (fun e => e) (fun _ _ e => e)
        have HT6 := Lib.hid hT6
        have HRW := Lib.hid hfin
        have hsw : w.heap.size ≤ wr.heap.size := HP.out.size
        have hjb : j ≤ 1000 := by omega
        have HXL := Lib.hid hxl
        have HJL := Lib.hid hj
        have hwb : w.heap.size ≤ gbb := by omega
        clear hpv hfin hwl hi62 ht hxl hxm hT6 hj
        go_wp2_with (first | (refine wpList_load_row rfl 62 _ rfl g4 rfl _ (whC (xm : Int) xr).toArray _ _ HC.out Try.underlying62 rfl HI62.out ?_) | (refine wpList_buildSlice_one rfl 58 62 _ rfl i62 z62 33 (whC (xm : Int) xr) Try.underlying58 hi hz62 hsz (by omega) (by omega) rfl HWL.out ?_) | (at_builtin; refine wpList_append_turn _ rfl _ _ 58 58 62 rfl i62 z62 33 40 Try.underlying58 hi hz62 hsz hby hzs (.slice (some ⟨gbb, 0, none⟩) j c) _ _ rfl (HO.out.alloc _) _ rfl 1 (whC (xm : Int) xr) (Src.ofSlice _ Try.underlying58 _ _ _ _ (by rw [HWL.out]) (World.news_of_block (heap_alloc_new wr _)) (whC_one _ _)) (by omega) (by omega) ?_))
        intro ao8 c8 w8 hown8 ht8 hb8
        have ht8 : Turn (fun k => k = gbb) wr w8 := ((Turn.refl (fun k => k = gbb) wr).alloc _).trans (ht8.mono fun k _ e => HNEW.out k _ e) fun _ _ e => e
        have hb8 : ∀ k, (Value.slice ao8 (j + 1) c8).ownBlock = some k → w.heap.size ≤ k := by
          intro k hk
          rcases hb8.out with e | e
          · rw [e] at hk; have := HNEW.out _ _ hk; omega
          · rw [e] at hk; have := Option.some.inj hk; omega
        have hat8 := ht8.obj HT6.out.at_ (by omega)
        have c0 : w8.cell? ⟨g, 0, none⟩ = some v := by rw [cell_of_row w8 g 0 _ _ _ hat8]; rfl
        have f0 := frozen_of_row w8 g 0 _ _ hat8
        have G9 : (w8.setCell ⟨g, 0, none⟩ (.slice ao8 (j + 1) c8)).heap[g]? = some (.cells #[.slice ao8 (j + 1) c8, .int .i64 (tn : Int)] 60 (0, 0)) := heap_set_cell hat8
        have c1 : (w8.setCell ⟨g, 0, none⟩ (.slice ao8 (j + 1) c8)).cell? ⟨g, 1, none⟩ = some (.int .i64 (tn : Int)) := by rw [cell_of_row _ g 1 _ _ _ G9]; rfl
        have f1 := frozen_of_row _ g 1 _ _ G9
        have i1 : IntKind.i64.wrap ((tn : Int) + 1) = ((tn + 1 : Nat) : Int) := by rw [IntWalk.i64_in _ (by omega)]; omega
        have i2 : ((tn + 1 : Nat) : Int) = (tn : Int) + 1 := by omega
        have T9 : Turn (fun k => k = g) w ((w8.setCell ⟨g, 0, none⟩ (.slice ao8 (j + 1) c8)).setCell ⟨g, 1, none⟩ (.int .i64 ((tn : Int) + 1))) := (((((Turn.refl (fun k => k = g) w).pure HP.out).trans ht8 fun i hi e => by omega).setCell (fun _ => rfl) _).setCell (fun _ => rfl) _)
        have G10 : ((w8.setCell ⟨g, 0, none⟩ (.slice ao8 (j + 1) c8)).setCell ⟨g, 1, none⟩ (.int .i64 ((tn : Int) + 1))).heap[g]? = some (.cells #[.slice ao8 (j + 1) c8, .int .i64 ((tn + 1 : Nat) : Int)] 60 (0, 0)) := (heap_set_cell G9).trans (by rw [i2]; rfl)
        have O10 : ((w8.setCell ⟨g, 0, none⟩ (.slice ao8 (j + 1) c8)).setCell ⟨g, 1, none⟩ (.int .i64 ((tn : Int) + 1))).ownsRow 0 62 33 (.slice ao8 (j + 1) c8) (j + 1) (rowC (rows.take j) ++ whC (xm : Int) xr) := (((Turn.refl (fun k => k = g) w8).setCell (fun _ => rfl) _).setCell (fun _ => rfl) _).own hown8 (fun k hk e => by have := hb8 k hk; omega)
        have hlen : (pushV rows (1, lf)).length = j + 1 := by rw [← HRW.out, List.length_append, List.length_take, Nat.min_eq_left HJL.out]; rfl
        have hrc : rowC (pushV rows (1, lf)) = rowC (rows.take j) ++ whC (xm : Int) xr := by rw [← HRW.out, rowC_app]; simp [rowC]
        have hok10 : RowsOk (pushV rows (1, lf)) := by
          rw [← HRW.out]
          intro p hp
          rcases List.mem_append.1 hp with h | h
          · exact HOK.out p (List.mem_of_mem_take h)
          · obtain rfl := List.mem_singleton.1 h; exact HXL.out
        have HF := Lib.hid (And.intro (show TreeAt _ g (.slice ao8 (j + 1) c8) (pushV rows (1, lf)) (tn + 1) from ⟨G10, by rw [hlen, hrc]; exact O10, fun e => by have := hb8 g e; omega, hok10⟩) (And.intro hb8 T9))
        clear hok10 hrc hlen O10 G10 T9 G9 hat8 ht8 hown8 hb8 i2 hjb HC HO HRW
        go_wp2
        try simp only [Exit.inBlock, Exit.then]
        exact bodyPost_end (results_none rfl _ _ _) rfl ⟨rfl, _, HF.out⟩
end Go.Proofs.Ytjbigghjbcjelaa
