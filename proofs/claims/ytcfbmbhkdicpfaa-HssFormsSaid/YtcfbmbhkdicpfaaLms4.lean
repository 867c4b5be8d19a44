/- Chapter 5: may a key be? A type's height. -/
import Derived.Test.YtcfbmbhkdicpfaaLms3
import Derived.Test.YtcfbmbhkdicpfaaGrow
namespace Go.Proofs.Ytcfbmbhkdicpfaa
open Go.RowKit

/-- May a key be? -/
def lmayB (k : LKey) : Bool := kindB k.ots && decide (1 ≤ k.height) && decide (k.height ≤ 5) && decide (k.id.length = 16) && decide (k.seed.length = 32) && decide (0 ≤ k.next) && decide (k.next ≤ 2 ^ k.height.toNat)
theorem lk_cells {k : LKey} {W : World} {g : Nat} (hg : W.heap[g]? = some (.cells (lkC k).toArray 68 (0, 0))) : W.cell? ⟨g, 0, none⟩ = some (.int .i64 k.ots) ∧ W.cell? ⟨g, 1, none⟩ = some (.int .i64 k.height) ∧ W.cell? ⟨g, 2, none⟩ = some (.string (bstr k.id)) ∧ W.cell? ⟨g, 3, none⟩ = some (.string (bstr k.seed)) ∧ W.cell? ⟨g, 4, none⟩ = some (.int .i64 k.next) := by
  rw [cell_of_row W g 0 _ _ _ hg, cell_of_row W g 1 _ _ _ hg, cell_of_row W g 2 _ _ _ hg, cell_of_row W g 3 _ _ _ hg, cell_of_row W g 4 _ _ _ hg]
  exact ⟨rfl, rfl, rfl, rfl, rfl⟩
theorem may_sh1 (h : Nat) (hh : h = 1 ∨ h = 2 ∨ h = 3 ∨ h = 4 ∨ h = 5) : wrap64 ((2 : Int) ^ h) = (2 : Int) ^ h := by
  rcases hh with rfl | rfl | rfl | rfl | rfl <;> (unfold wrap64; omega)
theorem may_sh3 (h : Nat) (hh : h = 1 ∨ h = 2 ∨ h = 3 ∨ h = 4 ∨ h = 5) : IntKind.i64.wrap ((2 : Int) ^ min h 64) = (2 : Int) ^ h := by
  rcases hh with rfl | rfl | rfl | rfl | rfl <;> rfl

set_option maxRecDepth 100000 in
set_option maxHeartbeats 4000000 in
theorem LMay_any (w : World) (k : LKey) : Calls Try.prog 77 #[.agg (lkC k).toArray] w fun e w' => e = .returned (.bool (lmayB k)) ∧ Pure w w' := by
  have HC := Lib.hid (fun W g => @lk_cells k W g)
  obtain ⟨C, hC⟩ : ∃ C, C = lkC k := ⟨_, rfl⟩
  rw [← hC] at HC ⊢
  clear hC
  have hB : lmayB k = (kindB k.ots && decide (1 ≤ k.height) && decide (k.height ≤ 5) && decide (k.id.length = 16) && decide (k.seed.length = 32) && decide (0 ≤ k.next) && decide (k.next ≤ 2 ^ k.height.toNat)) := rfl
  generalize lmayB k = B at hB ⊢
  obtain ⟨ots, height, id, seed, next⟩ := k
  simp only at HC hB
  have z1 := bstr_size id
  have z2 := bstr_size seed
  obtain ⟨n, hn⟩ : ∃ n, n = id.length := ⟨_, rfl⟩
  obtain ⟨n2, hn2⟩ : ∃ n2, n2 = seed.length := ⟨_, rfl⟩
  rw [← hn] at z1 hB
  rw [← hn2] at z2 hB
  clear hn hn2
  have hp := fun W => Size_any W ots
  generalize 36 + 32 * (parV ots).2.1 = SZ at hp
  generalize kindB ots = KB at hB hp
  have HPP := Lib.hid hp
  clear hp
  cases KB with
  | false =>
    have HB : Hid (B = false) := Lib.hid (by rw [hB]; simp)
    clear hB
    go_enter Try.func77, Try.ntmps77
    go_wp2_with (refine wpList_boxV rfl 68 _ rfl C rfl ?_)
    intro g1 w1 e1 c1 t1 s1
    clear e1 s1
    have D1 := Lib.hid c1; have PT := Lib.hid t1
    obtain ⟨k0, _, _, _, _⟩ := HC.out _ _ c1
    clear c1 t1
    go_wp2_with fail
    refine (HPP.out _).mono ?_
    rintro e w2 ⟨rfl, t2⟩
    have D1 := Lib.hid (t2.obj D1.out (fun e => e)); have PT := Lib.hid (PT.out.pure t2)
    clear t2 k0
    go_wp2_with fail
    refine wp_region_G (S := fun w' => Pure w2 w' ∧ Held [(g1, Obj.cells C.toArray 68 (0, 0))] w') (T := fun _ _ _ => True) (by kernel_rfl) ⟨(Turn.refl _ _).drew, held_cons (show w2.drew.heap[_]? = _ from D1.out) (held_nil _)⟩ trivial ?_
    have HG := Grow.held w2 [(g1, Obj.cells C.toArray 68 (0, 0))]
    refine atN 0 ?_
    iterate 37
      first
      | refine anyG_y HG (v := undef) rfl (by kernel_rfl) (fun _ _ _ h => h) (fun _ _ _ => Iff.rfl) (Or.inr ⟨by rfl, rfl⟩) ?_
      | refine anyG_y HG (v := ?_) rfl (by kernel_rfl) (fun _ _ _ h => h) (fun _ _ _ => Iff.rfl) (Or.inl ⟨by rfl, fun w hSw => ?_⟩) ?_
        rotate_left
        · skip
          obtain ⟨s0, s1, s2, s3, s4⟩ := HC.out _ _ hSw.2.head
          first | (go_simp; done) | (go_simp; with_reducible rfl)
      simp only [Nat.reduceAdd, AP]
    refine anyG_done (by kernel_rfl) (fun w3 hS _ => ?_) _
    obtain ⟨hpS, hS⟩ := hS
    clear HG
    have PT := Lib.hid (PT.out.pure hpS)
    clear hS hpS
    go_wp2
    go_ret
    exact ⟨by first | rfl | (rw [HB.out]; rfl), PT.out⟩
  | true =>
    by_cases h1 : 1 ≤ height
    case neg =>
      have d1 : decide (1 ≤ height) = false := decide_eq_false h1
      have HB : Hid (B = false) := Lib.hid (by rw [hB]; simp; omega)
      clear hB h1
      go_enter Try.func77, Try.ntmps77
      go_wp2_with (refine wpList_boxV rfl 68 _ rfl C rfl ?_)
      intro g1 w1 e1 c1 t1 s1
      clear e1 s1
      have D1 := Lib.hid c1; have PT := Lib.hid t1
      obtain ⟨k0, _, _, _, _⟩ := HC.out _ _ c1
      clear c1 t1
      go_wp2_with fail
      refine (HPP.out _).mono ?_
      rintro e w2 ⟨rfl, t2⟩
      have D1 := Lib.hid (t2.obj D1.out (fun e => e)); have PT := Lib.hid (PT.out.pure t2)
      clear t2 k0
      go_wp2_with fail
      refine wp_region_G (S := fun w' => Pure w2 w' ∧ Held [(g1, Obj.cells C.toArray 68 (0, 0))] w') (T := fun _ _ _ => True) (by kernel_rfl) ⟨(Turn.refl _ _).drew, held_cons (show w2.drew.heap[_]? = _ from D1.out) (held_nil _)⟩ trivial ?_
      have HG := Grow.held w2 [(g1, Obj.cells C.toArray 68 (0, 0))]
      refine atN 0 ?_
      iterate 37
        first
        | refine anyG_y HG (v := undef) rfl (by kernel_rfl) (fun _ _ _ h => h) (fun _ _ _ => Iff.rfl) (Or.inr ⟨by rfl, rfl⟩) ?_
        | refine anyG_y HG (v := ?_) rfl (by kernel_rfl) (fun _ _ _ h => h) (fun _ _ _ => Iff.rfl) (Or.inl ⟨by rfl, fun w hSw => ?_⟩) ?_
          rotate_left
          · skip
            obtain ⟨s0, s1, s2, s3, s4⟩ := HC.out _ _ hSw.2.head
            first | (go_simp; done) | (go_simp; with_reducible rfl)
        simp only [Nat.reduceAdd, AP]
      refine anyG_done (by kernel_rfl) (fun w3 hS _ => ?_) _
      obtain ⟨hpS, hS⟩ := hS
      clear HG
      have PT := Lib.hid (PT.out.pure hpS)
      clear hS hpS
      go_wp2
      go_ret
      exact ⟨by first | rfl | (rw [HB.out]; rfl), PT.out⟩
    case pos =>
      have d1 : decide (1 ≤ height) = true := decide_eq_true h1
      by_cases h2 : height ≤ 5
      case neg =>
        have d2 : decide (height ≤ 5) = false := decide_eq_false h2
        have HB : Hid (B = false) := Lib.hid (by rw [hB]; simp; omega)
        clear hB h2 h1
        go_enter Try.func77, Try.ntmps77
        go_wp2_with (refine wpList_boxV rfl 68 _ rfl C rfl ?_)
        intro g1 w1 e1 c1 t1 s1
        clear e1 s1
        have D1 := Lib.hid c1; have PT := Lib.hid t1
        obtain ⟨k0, _, _, _, _⟩ := HC.out _ _ c1
        clear c1 t1
        go_wp2_with fail
        refine (HPP.out _).mono ?_
        rintro e w2 ⟨rfl, t2⟩
        have D1 := Lib.hid (t2.obj D1.out (fun e => e)); have PT := Lib.hid (PT.out.pure t2)
        clear t2 k0
        go_wp2_with fail
        refine wp_region_G (S := fun w' => Pure w2 w' ∧ Held [(g1, Obj.cells C.toArray 68 (0, 0))] w') (T := fun _ _ _ => True) (by kernel_rfl) ⟨(Turn.refl _ _).drew, held_cons (show w2.drew.heap[_]? = _ from D1.out) (held_nil _)⟩ trivial ?_
        have HG := Grow.held w2 [(g1, Obj.cells C.toArray 68 (0, 0))]
        refine atN 0 ?_
        iterate 37
          first
          | refine anyG_y HG (v := undef) rfl (by kernel_rfl) (fun _ _ _ h => h) (fun _ _ _ => Iff.rfl) (Or.inr ⟨by rfl, rfl⟩) ?_
          | refine anyG_y HG (v := ?_) rfl (by kernel_rfl) (fun _ _ _ h => h) (fun _ _ _ => Iff.rfl) (Or.inl ⟨by rfl, fun w hSw => ?_⟩) ?_
            rotate_left
            · skip
              obtain ⟨s0, s1, s2, s3, s4⟩ := HC.out _ _ hSw.2.head
              first | (go_simp; done) | (go_simp; with_reducible rfl)
          simp only [Nat.reduceAdd, AP]
        refine anyG_done (by kernel_rfl) (fun w3 hS _ => ?_) _
        obtain ⟨hpS, hS⟩ := hS
        clear HG
        have PT := Lib.hid (PT.out.pure hpS)
        clear hS hpS
        go_wp2
        go_ret
        exact ⟨by first | rfl | (rw [HB.out]; rfl), PT.out⟩
      case pos =>
        have d2 : decide (height ≤ 5) = true := decide_eq_true h2
        by_cases h3 : n = 16
        case neg =>
          have d3 : ((n : Int) == 16) = false := by simp; omega
          have d3n : (n == 16) = false := by simp; omega
          have HB : Hid (B = false) := Lib.hid (by rw [hB]; simp; omega)
          clear hB h3 h1 h2
          go_enter Try.func77, Try.ntmps77
          go_wp2_with (refine wpList_boxV rfl 68 _ rfl C rfl ?_)
          intro g1 w1 e1 c1 t1 s1
          clear e1 s1
          have D1 := Lib.hid c1; have PT := Lib.hid t1
          obtain ⟨k0, _, _, _, _⟩ := HC.out _ _ c1
          clear c1 t1
          go_wp2_with fail
          refine (HPP.out _).mono ?_
          rintro e w2 ⟨rfl, t2⟩
          have D1 := Lib.hid (t2.obj D1.out (fun e => e)); have PT := Lib.hid (PT.out.pure t2)
          clear t2 k0
          go_wp2_with fail
          refine wp_region_G (S := fun w' => Pure w2 w' ∧ Held [(g1, Obj.cells C.toArray 68 (0, 0))] w') (T := fun _ _ _ => True) (by kernel_rfl) ⟨(Turn.refl _ _).drew, held_cons (show w2.drew.heap[_]? = _ from D1.out) (held_nil _)⟩ trivial ?_
          have HG := Grow.held w2 [(g1, Obj.cells C.toArray 68 (0, 0))]
          refine atN 0 ?_
          iterate 37
            first
            | refine anyG_y HG (v := undef) rfl (by kernel_rfl) (fun _ _ _ h => h) (fun _ _ _ => Iff.rfl) (Or.inr ⟨by rfl, rfl⟩) ?_
            | refine anyG_y HG (v := ?_) rfl (by kernel_rfl) (fun _ _ _ h => h) (fun _ _ _ => Iff.rfl) (Or.inl ⟨by rfl, fun w hSw => ?_⟩) ?_
              rotate_left
              · skip
                obtain ⟨s0, s1, s2, s3, s4⟩ := HC.out _ _ hSw.2.head
                first | (go_simp; done) | (go_simp; with_reducible rfl)
            simp only [Nat.reduceAdd, AP]
          refine anyG_done (by kernel_rfl) (fun w3 hS _ => ?_) _
          obtain ⟨hpS, hS⟩ := hS
          clear HG
          have PT := Lib.hid (PT.out.pure hpS)
          clear hS hpS
          go_wp2
          go_ret
          exact ⟨by first | rfl | (rw [HB.out]; rfl), PT.out⟩
        case pos =>
          have d3 : ((n : Int) == 16) = true := by simp; omega
          have d3n : (n == 16) = true := by simp; omega
          by_cases h4 : n2 = 32
          case neg =>
            have d4 : ((n2 : Int) == 32) = false := by simp; omega
            have d4n : (n2 == 32) = false := by simp; omega
            have HB : Hid (B = false) := Lib.hid (by rw [hB]; simp; omega)
            clear hB h4 h1 h2 h3
            go_enter Try.func77, Try.ntmps77
            go_wp2_with (refine wpList_boxV rfl 68 _ rfl C rfl ?_)
            intro g1 w1 e1 c1 t1 s1
            clear e1 s1
            have D1 := Lib.hid c1; have PT := Lib.hid t1
            obtain ⟨k0, _, _, _, _⟩ := HC.out _ _ c1
            clear c1 t1
            go_wp2_with fail
            refine (HPP.out _).mono ?_
            rintro e w2 ⟨rfl, t2⟩
            have D1 := Lib.hid (t2.obj D1.out (fun e => e)); have PT := Lib.hid (PT.out.pure t2)
            clear t2 k0
            go_wp2_with fail
            refine wp_region_G (S := fun w' => Pure w2 w' ∧ Held [(g1, Obj.cells C.toArray 68 (0, 0))] w') (T := fun _ _ _ => True) (by kernel_rfl) ⟨(Turn.refl _ _).drew, held_cons (show w2.drew.heap[_]? = _ from D1.out) (held_nil _)⟩ trivial ?_
            have HG := Grow.held w2 [(g1, Obj.cells C.toArray 68 (0, 0))]
            refine atN 0 ?_
            iterate 37
              first
              | refine anyG_y HG (v := undef) rfl (by kernel_rfl) (fun _ _ _ h => h) (fun _ _ _ => Iff.rfl) (Or.inr ⟨by rfl, rfl⟩) ?_
              | refine anyG_y HG (v := ?_) rfl (by kernel_rfl) (fun _ _ _ h => h) (fun _ _ _ => Iff.rfl) (Or.inl ⟨by rfl, fun w hSw => ?_⟩) ?_
                rotate_left
                · skip
                  obtain ⟨s0, s1, s2, s3, s4⟩ := HC.out _ _ hSw.2.head
                  first | (go_simp; done) | (go_simp; with_reducible rfl)
              simp only [Nat.reduceAdd, AP]
            refine anyG_done (by kernel_rfl) (fun w3 hS _ => ?_) _
            obtain ⟨hpS, hS⟩ := hS
            clear HG
            have PT := Lib.hid (PT.out.pure hpS)
            clear hS hpS
            go_wp2
            go_ret
            exact ⟨by first | rfl | (rw [HB.out]; rfl), PT.out⟩
          case pos =>
            have d4 : ((n2 : Int) == 32) = true := by simp; omega
            have d4n : (n2 == 32) = true := by simp; omega
            by_cases h5 : 0 ≤ next
            case neg =>
              have d5 : decide (0 ≤ next) = false := decide_eq_false h5
              have HB : Hid (B = false) := Lib.hid (by rw [hB]; simp; omega)
              clear hB h5 h1 h2 h3 h4
              go_enter Try.func77, Try.ntmps77
              go_wp2_with (refine wpList_boxV rfl 68 _ rfl C rfl ?_)
              intro g1 w1 e1 c1 t1 s1
              clear e1 s1
              have D1 := Lib.hid c1; have PT := Lib.hid t1
              obtain ⟨k0, _, _, _, _⟩ := HC.out _ _ c1
              clear c1 t1
              go_wp2_with fail
              refine (HPP.out _).mono ?_
              rintro e w2 ⟨rfl, t2⟩
              have D1 := Lib.hid (t2.obj D1.out (fun e => e)); have PT := Lib.hid (PT.out.pure t2)
              clear t2 k0
              go_wp2_with fail
              refine wp_region_G (S := fun w' => Pure w2 w' ∧ Held [(g1, Obj.cells C.toArray 68 (0, 0))] w') (T := fun _ _ _ => True) (by kernel_rfl) ⟨(Turn.refl _ _).drew, held_cons (show w2.drew.heap[_]? = _ from D1.out) (held_nil _)⟩ trivial ?_
              have HG := Grow.held w2 [(g1, Obj.cells C.toArray 68 (0, 0))]
              refine atN 0 ?_
              iterate 37
                first
                | refine anyG_y HG (v := undef) rfl (by kernel_rfl) (fun _ _ _ h => h) (fun _ _ _ => Iff.rfl) (Or.inr ⟨by rfl, rfl⟩) ?_
                | refine anyG_y HG (v := ?_) rfl (by kernel_rfl) (fun _ _ _ h => h) (fun _ _ _ => Iff.rfl) (Or.inl ⟨by rfl, fun w hSw => ?_⟩) ?_
                  rotate_left
                  · skip
                    obtain ⟨s0, s1, s2, s3, s4⟩ := HC.out _ _ hSw.2.head
                    first | (go_simp; done) | (go_simp; with_reducible rfl)
                simp only [Nat.reduceAdd, AP]
              refine anyG_done (by kernel_rfl) (fun w3 hS _ => ?_) _
              obtain ⟨hpS, hS⟩ := hS
              clear HG
              have PT := Lib.hid (PT.out.pure hpS)
              clear hS hpS
              go_wp2
              go_ret
              exact ⟨by first | rfl | (rw [HB.out]; rfl), PT.out⟩
            case pos =>
              have d5 : decide (0 ≤ next) = true := decide_eq_true h5
              obtain ⟨h, rfl⟩ : ∃ h : Nat, height = (h : Int) := ⟨height.toNat, by omega⟩
              have hh : h = 1 ∨ h = 2 ∨ h = 3 ∨ h = 4 ∨ h = 5 := by omega
              have sh1 := may_sh1 h hh
              have sh3 := may_sh3 h hh
              have HB : Hid (B = decide (next ≤ (2 : Int) ^ h)) := Lib.hid (by rw [hB, d1, d2, d5, decide_eq_true h3, decide_eq_true h4]; simp)
              clear hB h1 h2 h3 h4 h5 hh
              go_enter Try.func77, Try.ntmps77
              go_wp2_with (refine wpList_boxV rfl 68 _ rfl C rfl ?_)
              intro g1 w1 e1 c1 t1 s1
              clear e1 s1
              have D1 := Lib.hid c1; have PT := Lib.hid t1
              obtain ⟨k0, _, _, _, _⟩ := HC.out _ _ c1
              clear c1 t1
              go_wp2_with fail
              refine (HPP.out _).mono ?_
              rintro e w2 ⟨rfl, t2⟩
              have D1 := Lib.hid (t2.obj D1.out (fun e => e)); have PT := Lib.hid (PT.out.pure t2)
              clear t2 k0
              go_wp2_with fail
              refine wp_region_G (S := fun w' => Pure w2 w' ∧ Held [(g1, Obj.cells C.toArray 68 (0, 0))] w') (T := fun _ _ _ => True) (by kernel_rfl) ⟨(Turn.refl _ _).drew, held_cons (show w2.drew.heap[_]? = _ from D1.out) (held_nil _)⟩ trivial ?_
              have HG := Grow.held w2 [(g1, Obj.cells C.toArray 68 (0, 0))]
              refine atN 0 ?_
              iterate 37
                first
                | refine anyG_y HG (v := undef) rfl (by kernel_rfl) (fun _ _ _ h => h) (fun _ _ _ => Iff.rfl) (Or.inr ⟨by rfl, rfl⟩) ?_
                | refine anyG_y HG (v := ?_) rfl (by kernel_rfl) (fun _ _ _ h => h) (fun _ _ _ => Iff.rfl) (Or.inl ⟨by rfl, fun w hSw => ?_⟩) ?_
                  rotate_left
                  · skip
                    obtain ⟨s0, s1, s2, s3, s4⟩ := HC.out _ _ hSw.2.head
                    first | (go_simp; done) | (go_simp; with_reducible rfl)
                simp only [Nat.reduceAdd, AP]
              refine anyG_done (by kernel_rfl) (fun w3 hS _ => ?_) _
              obtain ⟨hpS, hS⟩ := hS
              clear HG
              have PT := Lib.hid (PT.out.pure hpS)
              clear hS hpS
              go_wp2
              go_ret
              exact ⟨by first | rfl | (rw [HB.out]; rfl), PT.out⟩

set_option maxRecDepth 100000 in
set_option maxHeartbeats 4000000 in
theorem LmsMayR_any (w : World) (k : LKey) : Calls Try.prog 82 #[.agg (lkC k).toArray] w fun e w' => e = .returned (.bool (lmayB k)) ∧ Pure w w' := by
  have HC := Lib.hid (fun W g => @lk_cells k W g)
  obtain ⟨C, hC⟩ : ∃ C, C = lkC k := ⟨_, rfl⟩
  rw [← hC] at HC ⊢
  clear hC
  have hB : lmayB k = (kindB k.ots && decide (1 ≤ k.height) && decide (k.height ≤ 5) && decide (k.id.length = 16) && decide (k.seed.length = 32) && decide (0 ≤ k.next) && decide (k.next ≤ 2 ^ k.height.toNat)) := rfl
  generalize lmayB k = B at hB ⊢
  obtain ⟨ots, height, id, seed, next⟩ := k
  simp only at HC hB
  have z1 := bstr_size id
  have z2 := bstr_size seed
  obtain ⟨n, hn⟩ : ∃ n, n = id.length := ⟨_, rfl⟩
  obtain ⟨n2, hn2⟩ : ∃ n2, n2 = seed.length := ⟨_, rfl⟩
  rw [← hn] at z1 hB
  rw [← hn2] at z2 hB
  clear hn hn2
  have hp := fun W => Params_any W ots
  have hp0 := parV_zero ots
  have hp3 : decide (0 < ((parV ots).1 : Int)) = kindB ots := by
    rw [← Bool.not_not (b := kindB ots), ← hp0]
    rw [Bool.eq_iff_iff]
    simp
    omega
  generalize (parV ots).1 = W1 at hp hp3
  generalize (parV ots).2.1 = W2 at hp
  generalize (parV ots).2.2 = W3 at hp
  clear hp0
  generalize kindB ots = KB at hB hp3
  have HPP := Lib.hid hp
  clear hp
  cases KB with
  | false =>
    have hp3n : decide (0 < W1) = false := by rw [← hp3, Bool.eq_iff_iff]; simp
    have HB : Hid (B = false) := Lib.hid (by rw [hB]; simp)
    clear hB
    go_enter Try.func82, Try.ntmps82
    go_wp2_with (refine wpList_boxV rfl 68 _ rfl C rfl ?_)
    intro g1 w1 e1 c1 t1 s1
    clear e1 s1
    have D1 := Lib.hid c1; have PT := Lib.hid t1
    obtain ⟨k0, _, _, _, _⟩ := HC.out _ _ c1
    clear c1 t1
    go_wp2_with fail
    refine (HPP.out _).mono ?_
    rintro e w2 ⟨rfl, e2⟩
    rw [e2]
    clear e2 k0
    go_wp2_with fail
    refine wp_region_G (S := fun w' => Pure w1 w' ∧ Held [(g1, Obj.cells C.toArray 68 (0, 0))] w') (T := fun _ _ _ => True) (by kernel_rfl) ⟨(Turn.refl _ _).drew, held_cons (show w1.drew.heap[_]? = _ from D1.out) (held_nil _)⟩ trivial ?_
    have HG := Grow.held w1 [(g1, Obj.cells C.toArray 68 (0, 0))]
    refine atN 0 ?_
    iterate 38
      first
      | refine anyG_y HG (v := undef) rfl (by kernel_rfl) (fun _ _ _ h => h) (fun _ _ _ => Iff.rfl) (Or.inr ⟨by rfl, rfl⟩) ?_
      | refine anyG_y HG (v := ?_) rfl (by kernel_rfl) (fun _ _ _ h => h) (fun _ _ _ => Iff.rfl) (Or.inl ⟨by rfl, fun w hSw => ?_⟩) ?_
        rotate_left
        · skip
          obtain ⟨s0, s1, s2, s3, s4⟩ := HC.out _ _ hSw.2.head
          first | (go_simp; done) | (go_simp; with_reducible rfl)
      simp only [Nat.reduceAdd, AP]
    refine anyG_done (by kernel_rfl) (fun w3 hS _ => ?_) _
    obtain ⟨hpS, hS⟩ := hS
    clear HG
    have PT := Lib.hid (PT.out.pure hpS)
    clear hS hpS
    go_wp2
    go_ret
    exact ⟨by first | rfl | (rw [HB.out]; rfl), PT.out⟩
  | true =>
    have hp3n : decide (0 < W1) = true := by rw [← hp3, Bool.eq_iff_iff]; simp
    by_cases h1 : 1 ≤ height
    case neg =>
      have d1 : decide (1 ≤ height) = false := decide_eq_false h1
      have HB : Hid (B = false) := Lib.hid (by rw [hB]; simp; omega)
      clear hB h1
      go_enter Try.func82, Try.ntmps82
      go_wp2_with (refine wpList_boxV rfl 68 _ rfl C rfl ?_)
      intro g1 w1 e1 c1 t1 s1
      clear e1 s1
      have D1 := Lib.hid c1; have PT := Lib.hid t1
      obtain ⟨k0, _, _, _, _⟩ := HC.out _ _ c1
      clear c1 t1
      go_wp2_with fail
      refine (HPP.out _).mono ?_
      rintro e w2 ⟨rfl, e2⟩
      rw [e2]
      clear e2 k0
      go_wp2_with fail
      refine wp_region_G (S := fun w' => Pure w1 w' ∧ Held [(g1, Obj.cells C.toArray 68 (0, 0))] w') (T := fun _ _ _ => True) (by kernel_rfl) ⟨(Turn.refl _ _).drew, held_cons (show w1.drew.heap[_]? = _ from D1.out) (held_nil _)⟩ trivial ?_
      have HG := Grow.held w1 [(g1, Obj.cells C.toArray 68 (0, 0))]
      refine atN 0 ?_
      iterate 38
        first
        | refine anyG_y HG (v := undef) rfl (by kernel_rfl) (fun _ _ _ h => h) (fun _ _ _ => Iff.rfl) (Or.inr ⟨by rfl, rfl⟩) ?_
        | refine anyG_y HG (v := ?_) rfl (by kernel_rfl) (fun _ _ _ h => h) (fun _ _ _ => Iff.rfl) (Or.inl ⟨by rfl, fun w hSw => ?_⟩) ?_
          rotate_left
          · skip
            obtain ⟨s0, s1, s2, s3, s4⟩ := HC.out _ _ hSw.2.head
            first | (go_simp; done) | (go_simp; with_reducible rfl)
        simp only [Nat.reduceAdd, AP]
      refine anyG_done (by kernel_rfl) (fun w3 hS _ => ?_) _
      obtain ⟨hpS, hS⟩ := hS
      clear HG
      have PT := Lib.hid (PT.out.pure hpS)
      clear hS hpS
      go_wp2
      go_ret
      exact ⟨by first | rfl | (rw [HB.out]; rfl), PT.out⟩
    case pos =>
      have d1 : decide (1 ≤ height) = true := decide_eq_true h1
      by_cases h2 : height ≤ 5
      case neg =>
        have d2 : decide (height ≤ 5) = false := decide_eq_false h2
        have HB : Hid (B = false) := Lib.hid (by rw [hB]; simp; omega)
        clear hB h2 h1
        go_enter Try.func82, Try.ntmps82
        go_wp2_with (refine wpList_boxV rfl 68 _ rfl C rfl ?_)
        intro g1 w1 e1 c1 t1 s1
        clear e1 s1
        have D1 := Lib.hid c1; have PT := Lib.hid t1
        obtain ⟨k0, _, _, _, _⟩ := HC.out _ _ c1
        clear c1 t1
        go_wp2_with fail
        refine (HPP.out _).mono ?_
        rintro e w2 ⟨rfl, e2⟩
        rw [e2]
        clear e2 k0
        go_wp2_with fail
        refine wp_region_G (S := fun w' => Pure w1 w' ∧ Held [(g1, Obj.cells C.toArray 68 (0, 0))] w') (T := fun _ _ _ => True) (by kernel_rfl) ⟨(Turn.refl _ _).drew, held_cons (show w1.drew.heap[_]? = _ from D1.out) (held_nil _)⟩ trivial ?_
        have HG := Grow.held w1 [(g1, Obj.cells C.toArray 68 (0, 0))]
        refine atN 0 ?_
        iterate 38
          first
          | refine anyG_y HG (v := undef) rfl (by kernel_rfl) (fun _ _ _ h => h) (fun _ _ _ => Iff.rfl) (Or.inr ⟨by rfl, rfl⟩) ?_
          | refine anyG_y HG (v := ?_) rfl (by kernel_rfl) (fun _ _ _ h => h) (fun _ _ _ => Iff.rfl) (Or.inl ⟨by rfl, fun w hSw => ?_⟩) ?_
            rotate_left
            · skip
              obtain ⟨s0, s1, s2, s3, s4⟩ := HC.out _ _ hSw.2.head
              first | (go_simp; done) | (go_simp; with_reducible rfl)
          simp only [Nat.reduceAdd, AP]
        refine anyG_done (by kernel_rfl) (fun w3 hS _ => ?_) _
        obtain ⟨hpS, hS⟩ := hS
        clear HG
        have PT := Lib.hid (PT.out.pure hpS)
        clear hS hpS
        go_wp2
        go_ret
        exact ⟨by first | rfl | (rw [HB.out]; rfl), PT.out⟩
      case pos =>
        have d2 : decide (height ≤ 5) = true := decide_eq_true h2
        by_cases h3 : n = 16
        case neg =>
          have d3 : ((n : Int) == 16) = false := by simp; omega
          have d3n : (n == 16) = false := by simp; omega
          have HB : Hid (B = false) := Lib.hid (by rw [hB]; simp; omega)
          clear hB h3 h1 h2
          go_enter Try.func82, Try.ntmps82
          go_wp2_with (refine wpList_boxV rfl 68 _ rfl C rfl ?_)
          intro g1 w1 e1 c1 t1 s1
          clear e1 s1
          have D1 := Lib.hid c1; have PT := Lib.hid t1
          obtain ⟨k0, _, _, _, _⟩ := HC.out _ _ c1
          clear c1 t1
          go_wp2_with fail
          refine (HPP.out _).mono ?_
          rintro e w2 ⟨rfl, e2⟩
          rw [e2]
          clear e2 k0
          go_wp2_with fail
          refine wp_region_G (S := fun w' => Pure w1 w' ∧ Held [(g1, Obj.cells C.toArray 68 (0, 0))] w') (T := fun _ _ _ => True) (by kernel_rfl) ⟨(Turn.refl _ _).drew, held_cons (show w1.drew.heap[_]? = _ from D1.out) (held_nil _)⟩ trivial ?_
          have HG := Grow.held w1 [(g1, Obj.cells C.toArray 68 (0, 0))]
          refine atN 0 ?_
          iterate 38
            first
            | refine anyG_y HG (v := undef) rfl (by kernel_rfl) (fun _ _ _ h => h) (fun _ _ _ => Iff.rfl) (Or.inr ⟨by rfl, rfl⟩) ?_
            | refine anyG_y HG (v := ?_) rfl (by kernel_rfl) (fun _ _ _ h => h) (fun _ _ _ => Iff.rfl) (Or.inl ⟨by rfl, fun w hSw => ?_⟩) ?_
              rotate_left
              · skip
                obtain ⟨s0, s1, s2, s3, s4⟩ := HC.out _ _ hSw.2.head
                first | (go_simp; done) | (go_simp; with_reducible rfl)
            simp only [Nat.reduceAdd, AP]
          refine anyG_done (by kernel_rfl) (fun w3 hS _ => ?_) _
          obtain ⟨hpS, hS⟩ := hS
          clear HG
          have PT := Lib.hid (PT.out.pure hpS)
          clear hS hpS
          go_wp2
          go_ret
          exact ⟨by first | rfl | (rw [HB.out]; rfl), PT.out⟩
        case pos =>
          have d3 : ((n : Int) == 16) = true := by simp; omega
          have d3n : (n == 16) = true := by simp; omega
          by_cases h4 : n2 = 32
          case neg =>
            have d4 : ((n2 : Int) == 32) = false := by simp; omega
            have d4n : (n2 == 32) = false := by simp; omega
            have HB : Hid (B = false) := Lib.hid (by rw [hB]; simp; omega)
            clear hB h4 h1 h2 h3
            go_enter Try.func82, Try.ntmps82
            go_wp2_with (refine wpList_boxV rfl 68 _ rfl C rfl ?_)
            intro g1 w1 e1 c1 t1 s1
            clear e1 s1
            have D1 := Lib.hid c1; have PT := Lib.hid t1
            obtain ⟨k0, _, _, _, _⟩ := HC.out _ _ c1
            clear c1 t1
            go_wp2_with fail
            refine (HPP.out _).mono ?_
            rintro e w2 ⟨rfl, e2⟩
            rw [e2]
            clear e2 k0
            go_wp2_with fail
            refine wp_region_G (S := fun w' => Pure w1 w' ∧ Held [(g1, Obj.cells C.toArray 68 (0, 0))] w') (T := fun _ _ _ => True) (by kernel_rfl) ⟨(Turn.refl _ _).drew, held_cons (show w1.drew.heap[_]? = _ from D1.out) (held_nil _)⟩ trivial ?_
            have HG := Grow.held w1 [(g1, Obj.cells C.toArray 68 (0, 0))]
            refine atN 0 ?_
            iterate 38
              first
              | refine anyG_y HG (v := undef) rfl (by kernel_rfl) (fun _ _ _ h => h) (fun _ _ _ => Iff.rfl) (Or.inr ⟨by rfl, rfl⟩) ?_
              | refine anyG_y HG (v := ?_) rfl (by kernel_rfl) (fun _ _ _ h => h) (fun _ _ _ => Iff.rfl) (Or.inl ⟨by rfl, fun w hSw => ?_⟩) ?_
                rotate_left
                · skip
                  obtain ⟨s0, s1, s2, s3, s4⟩ := HC.out _ _ hSw.2.head
                  first | (go_simp; done) | (go_simp; with_reducible rfl)
              simp only [Nat.reduceAdd, AP]
            refine anyG_done (by kernel_rfl) (fun w3 hS _ => ?_) _
            obtain ⟨hpS, hS⟩ := hS
            clear HG
            have PT := Lib.hid (PT.out.pure hpS)
            clear hS hpS
            go_wp2
            go_ret
            exact ⟨by first | rfl | (rw [HB.out]; rfl), PT.out⟩
          case pos =>
            have d4 : ((n2 : Int) == 32) = true := by simp; omega
            have d4n : (n2 == 32) = true := by simp; omega
            by_cases h5 : 0 ≤ next
            case neg =>
              have d5 : decide (0 ≤ next) = false := decide_eq_false h5
              have HB : Hid (B = false) := Lib.hid (by rw [hB]; simp; omega)
              clear hB h5 h1 h2 h3 h4
              go_enter Try.func82, Try.ntmps82
              go_wp2_with (refine wpList_boxV rfl 68 _ rfl C rfl ?_)
              intro g1 w1 e1 c1 t1 s1
              clear e1 s1
              have D1 := Lib.hid c1; have PT := Lib.hid t1
              obtain ⟨k0, _, _, _, _⟩ := HC.out _ _ c1
              clear c1 t1
              go_wp2_with fail
              refine (HPP.out _).mono ?_
              rintro e w2 ⟨rfl, e2⟩
              rw [e2]
              clear e2 k0
              go_wp2_with fail
              refine wp_region_G (S := fun w' => Pure w1 w' ∧ Held [(g1, Obj.cells C.toArray 68 (0, 0))] w') (T := fun _ _ _ => True) (by kernel_rfl) ⟨(Turn.refl _ _).drew, held_cons (show w1.drew.heap[_]? = _ from D1.out) (held_nil _)⟩ trivial ?_
              have HG := Grow.held w1 [(g1, Obj.cells C.toArray 68 (0, 0))]
              refine atN 0 ?_
              iterate 38
                first
                | refine anyG_y HG (v := undef) rfl (by kernel_rfl) (fun _ _ _ h => h) (fun _ _ _ => Iff.rfl) (Or.inr ⟨by rfl, rfl⟩) ?_
                | refine anyG_y HG (v := ?_) rfl (by kernel_rfl) (fun _ _ _ h => h) (fun _ _ _ => Iff.rfl) (Or.inl ⟨by rfl, fun w hSw => ?_⟩) ?_
                  rotate_left
                  · skip
                    obtain ⟨s0, s1, s2, s3, s4⟩ := HC.out _ _ hSw.2.head
                    first | (go_simp; done) | (go_simp; with_reducible rfl)
                simp only [Nat.reduceAdd, AP]
              refine anyG_done (by kernel_rfl) (fun w3 hS _ => ?_) _
              obtain ⟨hpS, hS⟩ := hS
              clear HG
              have PT := Lib.hid (PT.out.pure hpS)
              clear hS hpS
              go_wp2
              go_ret
              exact ⟨by first | rfl | (rw [HB.out]; rfl), PT.out⟩
            case pos =>
              have d5 : decide (0 ≤ next) = true := decide_eq_true h5
              obtain ⟨h, rfl⟩ : ∃ h : Nat, height = (h : Int) := ⟨height.toNat, by omega⟩
              have hh : h = 1 ∨ h = 2 ∨ h = 3 ∨ h = 4 ∨ h = 5 := by omega
              have sh1 := may_sh1 h hh
              have sh3 := may_sh3 h hh
              have HB : Hid (B = decide (next ≤ (2 : Int) ^ h)) := Lib.hid (by rw [hB, d1, d2, d5, decide_eq_true h3, decide_eq_true h4]; simp)
              clear hB h1 h2 h3 h4 h5 hh
              go_enter Try.func82, Try.ntmps82
              go_wp2_with (refine wpList_boxV rfl 68 _ rfl C rfl ?_)
              intro g1 w1 e1 c1 t1 s1
              clear e1 s1
              have D1 := Lib.hid c1; have PT := Lib.hid t1
              obtain ⟨k0, _, _, _, _⟩ := HC.out _ _ c1
              clear c1 t1
              go_wp2_with fail
              refine (HPP.out _).mono ?_
              rintro e w2 ⟨rfl, e2⟩
              rw [e2]
              clear e2 k0
              go_wp2_with fail
              refine wp_region_G (S := fun w' => Pure w1 w' ∧ Held [(g1, Obj.cells C.toArray 68 (0, 0))] w') (T := fun _ _ _ => True) (by kernel_rfl) ⟨(Turn.refl _ _).drew, held_cons (show w1.drew.heap[_]? = _ from D1.out) (held_nil _)⟩ trivial ?_
              have HG := Grow.held w1 [(g1, Obj.cells C.toArray 68 (0, 0))]
              refine atN 0 ?_
              iterate 38
                first
                | refine anyG_y HG (v := undef) rfl (by kernel_rfl) (fun _ _ _ h => h) (fun _ _ _ => Iff.rfl) (Or.inr ⟨by rfl, rfl⟩) ?_
                | refine anyG_y HG (v := ?_) rfl (by kernel_rfl) (fun _ _ _ h => h) (fun _ _ _ => Iff.rfl) (Or.inl ⟨by rfl, fun w hSw => ?_⟩) ?_
                  rotate_left
                  · skip
                    obtain ⟨s0, s1, s2, s3, s4⟩ := HC.out _ _ hSw.2.head
                    first | (go_simp; done) | (go_simp; with_reducible rfl)
                simp only [Nat.reduceAdd, AP]
              refine anyG_done (by kernel_rfl) (fun w3 hS _ => ?_) _
              obtain ⟨hpS, hS⟩ := hS
              clear HG
              have PT := Lib.hid (PT.out.pure hpS)
              clear hS hpS
              go_wp2
              go_ret
              exact ⟨by first | rfl | (rw [HB.out]; rfl), PT.out⟩
end Go.Proofs.Ytcfbmbhkdicpfaa
