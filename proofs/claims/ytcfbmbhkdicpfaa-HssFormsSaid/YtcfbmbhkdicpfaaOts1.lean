/- Chapter 4, the program: a number's bytes, places, steps. -/
import Derived.Test.YtcfbmbhkdicpfaaOtsP
import Derived.Test.YtcfbmbhkdicpfaaShaM
namespace Go.Proofs.Ytcfbmbhkdicpfaa
open Go.RowKit

/-- The bytes of a number that may be below 0. -/
def beI (x : Int) (n : Nat) : List UInt8 := (List.range n).map fun k => UInt8.ofNat (x / 2 ^ (8 * (n - 1 - k)) % 256).toNat
theorem beI_length (x : Int) (n : Nat) : (beI x n).length = n := by simp [beI]
theorem beI_get (x : Int) (n k : Nat) (h : k < n) : (beI x n)[k]? = some (UInt8.ofNat (x / 2 ^ (8 * (n - 1 - k)) % 256).toNat) := by simp [beI, h]
theorem beI_nat (x n : Nat) : beI (x : Int) n = beB x n := by
  apply List.ext_getElem?
  intro k
  by_cases h : k < n
  · rw [beI_get _ _ _ h, beB_getS x n k h]
    congr 1
    have : ((x : Int) / 2 ^ (8 * (n - 1 - k)) % 256) = (((x >>> (8 * (n - 1 - k))) % 256 : Nat) : Int) := by
      rw [Nat.shiftRight_eq_div_pow, Int.natCast_emod, Int.natCast_ediv, Int.natCast_pow]; rfl
    rw [this, Int.toNat_natCast]
    apply UInt8.toNat_inj.1
    rw [UInt8.toNat_ofNat', UInt8.toNat_ofNat']
    omega
  · rw [List.getElem?_eq_none (by rw [beI_length]; omega), List.getElem?_eq_none (by rw [beB_length]; omega)]
def numCur (x : Int) (n k : Nat) : List UInt8 := (beI x n).take k ++ List.replicate (n - k) 0
theorem numCur_zero (x : Int) (n : Nat) : numCur x n 0 = List.replicate n 0 := by simp [numCur]
theorem numCur_full (x : Int) (n : Nat) : numCur x n n = beI x n := by simp [numCur, List.take_of_length_le, beI_length]
theorem numCur_length (x : Int) (n k : Nat) (h : k ≤ n) : (numCur x n k).length = n := by simp [numCur, beI_length]; omega
theorem numCur_set (x : Int) (n k : Nat) (h : k < n) : ((u8s (numCur x n k)).set k (Value.int .u8 (x / 2 ^ (8 * (n - 1 - k)) % 256))).toArray = (u8s (numCur x n (k + 1))).toArray := by
  have hb : Value.int .u8 (x / 2 ^ (8 * (n - 1 - k)) % 256) = u8 (UInt8.ofNat (x / 2 ^ (8 * (n - 1 - k)) % 256).toNat) := by
    rw [u8, UInt8.toNat_ofNat']
    congr 1
    omega
  rw [hb]
  congr 1
  have hl : ((beI x n).take k).length = k := by simp [beI_length]; omega
  have e : (beI x n).take (k + 1) = (beI x n).take k ++ [UInt8.ofNat (x / 2 ^ (8 * (n - 1 - k)) % 256).toNat] := by
    rw [List.take_add_one, beI_get x n k h]; rfl
  have r : List.replicate (n - k) (0 : UInt8) = 0 :: List.replicate (n - (k + 1)) 0 := by
    rw [show n - k = (n - (k + 1)) + 1 from by omega, List.replicate_succ]
  simp only [u8s, numCur, e, r, List.map_append, List.map_cons, List.append_assoc, List.cons_append, List.nil_append]
  rw [List.set_append_right _ _ (by rw [List.length_map, hl]; exact Nat.le_refl _), List.length_map, hl]
  simp

set_option maxHeartbeats 1000000 in
theorem num_any (x : Int) (n : Nat) (w : World) (hle : n ≤ 4) (h1 : 1 ≤ n) :
    Calls Try.prog 131 #[.int .i64 x, .int .i64 n] w fun e w' => e = .returned (.string (bstr (beI x n))) ∧ Pure w w' := by
  have hmk := make_u8S w n (by omega)
  go_enter Try.func131, Try.ntmps131
  go_wp2
  clear hmk
  go_loopw [6, 11] (fun _ i wr => ∃ k : Nat, k ≤ n ∧ i = .int .i64 k ∧ wr = w.alloc (.cells (u8s (numCur x n k)).toArray 5)) (fun _ i _ => n - (intOf i).toNat)
  case atStart => exact ⟨0, by omega, rfl, by rw [numCur_zero]⟩
  case round =>
    obtain ⟨k, hk, rfl, rfl⟩ := hrel
    by_cases hlt : k < n
    · have hc : (w.alloc (.cells (u8s (numCur x n k)).toArray 5)).cell? ⟨w.heap.size, k, none⟩ = some (u8 ((numCur x n k).getD k 0)) := by
        rw [World.cell?_alloc_new]; simp [u8s, List.getD, numCur_length x n k hk, hlt]
      go_wp2
      exact ⟨⟨k + 1, by omega, by go_num, by rw [numCur_set x n k hlt]⟩, by simp [intOf]; omega⟩
    · obtain rfl : k = n := by omega
      rw [numCur_full]
      have hcv := conv_block (P := Try.prog) (w.alloc (.cells (u8s (beI x k)).toArray 5)) 65 5 9 5 (0, 0) Try.underlying65 Try.underlying5 Try.underlying9 w.heap.size k (beI x k) k (beI_length _ _) (heap_alloc_new _ _)
      go_wp2
      go_ret
      exact ⟨rfl, (Turn.refl _ _).alloc _⟩
/-- May an id and a number be? -/
def placeB (id : List UInt8) (q : Int) : Bool := decide (id.length = 16 ∧ 0 ≤ q ∧ q ≤ 4294967295)

set_option maxHeartbeats 1000000 in
theorem placeOf_any (id : List UInt8) (q : Int) (w : World) (hid : id.length ≤ 140737488351232) :
    Calls Try.prog 98 #[.string (bstr id), .int .i64 q] w fun e w' => e = .returned (.tuple #[.string (bstr (id ++ beI q 4)), .bool (placeB id q)]) ∧ Pure w w' := by
  have a1 := bstr_app id (beI q 4)
  have z1 := bstr_size id
  have z2 : (bstr (beI q 4)).size = 4 := by rw [bstr_size, beI_length]
  have n1 : ¬ (9223372036854775807 < id.length + 4) := by omega
  have hpb : placeB id q = decide (id.length = 16 ∧ 0 ≤ q ∧ q ≤ 4294967295) := rfl
  obtain ⟨n, hn⟩ : ∃ n, n = id.length := ⟨_, rfl⟩
  rw [← hn] at z1 n1 hid hpb
  generalize placeB id q = B at hpb ⊢
  have HPB := Lib.hid hpb; clear hpb hn
  have fin : ∀ b : Bool, B = b → B = b := fun _ h => h
  by_cases h1 : n = 16
  · have q1 : ((n : Int) == 16) = true := by simp; omega
    have q1n : (n == 16) = true := by simp; omega
    by_cases h2 : 0 ≤ q
    · have q2 : decide (0 ≤ q) = true := decide_eq_true h2
      by_cases h3 : q ≤ 4294967295
      · have q3 : decide (q ≤ 4294967295) = true := decide_eq_true h3
        have hB : B = true := by rw [HPB.out]; exact decide_eq_true ⟨h1, h2, h3⟩
        rw [hB]
        clear hB h1
        go_enter Try.func98, Try.ntmps98
        go_wp2_with fail
        refine (num_any q 4 _ (by omega) (by omega)).mono ?_
        rintro e w1 ⟨rfl, t1⟩
        go_wp2
        go_ret2
        exact ⟨rfl, t1⟩
      · have q3 : decide (q ≤ 4294967295) = false := decide_eq_false h3
        have hB : B = false := by rw [HPB.out]; exact decide_eq_false (by omega)
        rw [hB]
        clear hB h1
        go_enter Try.func98, Try.ntmps98
        go_wp2_with fail
        refine (num_any q 4 _ (by omega) (by omega)).mono ?_
        rintro e w1 ⟨rfl, t1⟩
        go_wp2
        go_ret2
        exact ⟨rfl, t1⟩
    · have q2 : decide (0 ≤ q) = false := decide_eq_false h2
      have hB : B = false := by rw [HPB.out]; exact decide_eq_false (by omega)
      rw [hB]
      clear hB h1
      go_enter Try.func98, Try.ntmps98
      go_wp2_with fail
      refine (num_any q 4 _ (by omega) (by omega)).mono ?_
      rintro e w1 ⟨rfl, t1⟩
      go_wp2
      go_ret2
      exact ⟨rfl, t1⟩
  · have q1 : ((n : Int) == 16) = false := by simp; omega
    have q1n : (n == 16) = false := by simp; omega
    have hB : B = false := by rw [HPB.out]; exact decide_eq_false (by omega)
    rw [hB]
    clear hB
    go_enter Try.func98, Try.ntmps98
    go_wp2_with fail
    refine (num_any q 4 _ (by omega) (by omega)).mono ?_
    rintro e w1 ⟨rfl, t1⟩
    go_wp2
    go_ret2
    exact ⟨rfl, t1⟩

/-- A row of one byte. -/
theorem wpList_buildByte {ops : Array Oper} {rest : List Oper} {o : Oper} {a : Act} {w : World} {Q : Exit → Act → World → Prop} (hg : o.guard = none) (x : Operand) (ho : o.op = .buildSlice 65 1 #[(0, x)]) (b : UInt8) (hx : a.eval x = u8 b)
    (h : ∀ g w', g = w.heap.size → w'.heap[g]? = some (.cells (u8s [b]).toArray 5 (0, 0)) → Pure w w' → wpList Try.prog ops Q rest (a.put o.dst (.slice (some ⟨g, 0, none⟩) 1 1)) w') : wpList Try.prog ops Q (o :: rest) a w := by
  obtain ⟨i, hi, h1, h2, h3⟩ := info_parts Try.infoU8S
  refine wpList_buildSlice hg 65 5 1 #[(0, x)] ho (u8s [b]).toArray i _ Try.underlying65 hi h1 (by rw [h2]; omega) (by rw [h2]; omega) ?_ (h _ _ rfl (heap_alloc_new _ _) ((Turn.refl _ _).alloc _))
  rw [h2]
  simp [Instr.fill, hx, Value.cells, u8, u8s, show Array.range 1 = #[0] from rfl]

set_option maxHeartbeats 1000000 in
theorem hash_any (w : World) (head rest : List UInt8) (what : Nat) (hh : head.length ≤ 1000) (hr : rest.length ≤ 1000000) :
    Calls Try.prog 101 #[.string (bstr head), .int .i64 (what : Int), .string (bstr rest)] w fun e w' => e = .returned (.string (bstr (shaV (head ++ beB what 2 ++ rest)))) ∧ Pure w w' := by
  obtain ⟨X, hXl, HZ⟩ := ex28
  have hnum := fun W => num_any (what : Int) 2 W (by omega) (by omega)
  rw [beI_nat] at hnum
  have hb2 : (beB what 2).length = 2 := beB_length _ _
  generalize beB what 2 = b2 at hb2 hnum ⊢
  obtain ⟨A, hA⟩ : ∃ A, A = head ++ b2 := ⟨_, rfl⟩
  obtain ⟨C, hC⟩ : ∃ C, C = A ++ rest := ⟨_, rfl⟩
  have hAl : A.length = head.length + 2 := by rw [hA, List.length_append, hb2]
  have hCl : C.length = head.length + 2 + rest.length := by rw [hC, List.length_append, hAl]
  have a1 : bstr head ++ bstr b2 = bstr A := by rw [hA]; exact bstr_app _ _
  have a2 : bstr A ++ bstr rest = bstr C := by rw [hC]; exact bstr_app _ _
  rw [← hA, ← hC]
  have z1 := bstr_size head
  have z2 : (bstr b2).size = 2 := by rw [bstr_size, hb2]
  have z3 : (bstr A).size = head.length + 2 := by rw [bstr_size, hAl]
  have z5 := bstr_size rest
  have n1 : ¬ (9223372036854775807 < head.length + 2) := by omega
  have n2 : ¬ (9223372036854775807 < head.length + 2 + rest.length) := by omega
  have HS := fun W => Sum_any W C (by omega)
  have hV : (shaV C).length = 32 := shaV_length _
  generalize shaV C = V at hV HS ⊢
  have hcv := fun (W : World) (g : Nat) (hW : W.heap[g]? = some (.cells (u8s V).toArray 62 (0, 0))) => conv_block (P := Try.prog) W 65 5 9 62 (0, 0) Try.underlying65 Try.underlying5 Try.underlying9 g 32 V 32 hV hW
  have HCV := Lib.hid hcv; have HSS := Lib.hid HS; have HN := Lib.hid hnum
  clear hcv HS hnum hA hC hAl hCl
  go_enter Try.func101, Try.ntmps101
  go_wp2_with fail
  refine (HN.out _).mono ?_
  rintro e w1 ⟨rfl, t1⟩
  go_wp2_with fail
  refine (HSS.out _).mono ?_
  rintro e w2 ⟨rfl, t2⟩
  go_wp2_with (refine wpList_allocZ rfl 62 rfl X HZ.out ?_)
  intro g w3 e3 c3 t3 s3
  have lg : w.heap.size ≤ g := by have := t1.size; have := t2.size; omega
  clear e3
  go_wp2_with (refine wpList_store_blk rfl 62 _ _ rfl g _ (u8s V) _ rfl rfl c3 (size28 hXl hV) (info28_l hV) (u8s_one _) ?_)
  intro w4 c4 t4 _
  have hcv := HCV.out _ _ c4
  have PT := Lib.hid (((t1.pure t2).pure t3).trans t4 fun q hq e => by omega : Pure w w4)
  clear c3 t3 s3 c4 t4 t1 t2 HCV
  go_wp2
  go_ret
  exact ⟨rfl, PT.out⟩

set_option maxHeartbeats 1000000 in
theorem start_any (w : World) (head seed : List UInt8) (i : Nat) (hh : head.length ≤ 1000) (hs : seed.length ≤ 1000) :
    Calls Try.prog 132 #[.string (bstr head), .int .i64 (i : Int), .string (bstr seed)] w fun e w' => e = .returned (.string (bstr (startV head i seed))) ∧ Pure w w' := by
  obtain ⟨B, hB⟩ : ∃ B : List UInt8, B = [255] := ⟨_, rfl⟩
  obtain ⟨C, hC⟩ : ∃ C, C = B ++ seed := ⟨_, rfl⟩
  have hCl : C.length = 1 + seed.length := by rw [hC, List.length_append, hB]; rfl
  have a1 : bstr B ++ bstr seed = bstr C := by rw [hC]; exact bstr_app _ _
  have z1 := bstr_size seed
  have z2 : (bstr B).size = 1 := by rw [bstr_size, hB]; rfl
  have n1 : ¬ (9223372036854775807 < 1 + seed.length) := by omega
  have hBl : B.length = 1 := by rw [hB]; rfl
  have hcv := fun (W : World) (g : Nat) (hW : W.heap[g]? = some (.cells (u8s B).toArray 5 (0, 0))) => conv_block (P := Try.prog) W 65 5 9 5 (0, 0) Try.underlying65 Try.underlying5 Try.underlying9 g 1 B 1 hBl hW
  have hh2 := fun W => hash_any W head C i hh (by omega)
  have hV : startV head i seed = shaV (head ++ beB i 2 ++ C) := by rw [startV, hC, hB]; rfl
  rw [hV]
  have HCV := Lib.hid hcv; have HH := Lib.hid hh2; have HB := Lib.hid hB
  clear hcv hh2 hB hC hCl hV hBl
  generalize shaV (head ++ beB i 2 ++ C) = V at HH ⊢
  go_enter Try.func132, Try.ntmps132
  go_wp2_with (refine wpList_buildByte rfl _ rfl 255 rfl ?_)
  intro g w1 e1 c1 t1
  clear e1
  rw [← HB.out] at c1
  have hcv := HCV.out _ _ c1
  clear c1 HCV
  go_wp2_with fail
  refine (HH.out _).mono ?_
  rintro e w2 ⟨rfl, t2⟩
  have PT := Lib.hid (t1.pure t2)
  clear t1 t2 hcv
  go_wp2
  go_ret
  exact ⟨rfl, PT.out⟩

set_option maxHeartbeats 1000000 in
theorem walk_any (w : World) (head : List UInt8) (i f n : Nat) (x : List UInt8) (hh : head.length ≤ 1000) (hfn : f + n ≤ 255) (hx : x.length = 32) :
    Calls Try.prog 102 #[.string (bstr head), .int .i64 (i : Int), .int .i64 (f : Int), .int .i64 ((f + n : Nat) : Int), .string (bstr x)] w fun e w' => e = .returned (.string (bstr (stepsV head i f n x))) ∧ Pure w w' := by
  obtain ⟨t, ht⟩ : ∃ t, t = f + n := ⟨_, rfl⟩
  rw [← ht]
  have HT := Lib.hid ht
  have ht1 : t ≤ 255 := by omega
  clear ht
  go_enter Try.func102, Try.ntmps102
  go_wp2
  go_loopw [4, 11] (fun s j wr => ∃ k : Nat, k ≤ n ∧ s = .string (bstr (stepsV head i f k x)) ∧ j = .int .i64 ((f + k : Nat) : Int) ∧ Hid (Pure w wr)) (fun _ j _ => t - (intOf j).toNat)
  case atStart => exact ⟨0, by omega, rfl, rfl, Lib.hid (Turn.refl _ _)⟩
  case round =>
    obtain ⟨k, hk, rfl, rfl, HP⟩ := hrel
    by_cases hlt : k < n
    · obtain ⟨j, hj⟩ : ∃ j, j = f + k := ⟨_, rfl⟩
      rw [← hj]
      have q1 : (j : Int) < t := by have := HT.out; omega
      have i1 : IntKind.i64.wrap ((j : Int) + 1) = ((j + 1 : Nat) : Int) := by rw [IntWalk.i64_in _ (by omega)]; omega
      have hy : (stepsV head i f k x).length = 32 := stepsV_length _ _ _ _ _ hx
      have hst := stepsV_last head i f k x
      rw [← hj] at hst
      generalize stepsV head i f k x = y at hy hst
      obtain ⟨b, hb⟩ : ∃ b : UInt8, b = UInt8.ofNat j := ⟨_, rfl⟩
      rw [← hb] at hst
      obtain ⟨B, hB⟩ : ∃ B : List UInt8, B = [b] := ⟨_, rfl⟩
      obtain ⟨C, hC⟩ : ∃ C, C = B ++ y := ⟨_, rfl⟩
      have hCl : C.length = 1 + 32 := by rw [hC, List.length_append, hB, hy]; rfl
      have a1 : bstr B ++ bstr y = bstr C := by rw [hC]; exact bstr_app _ _
      have z1 : (bstr y).size = 32 := by rw [bstr_size, hy]
      have z2 : (bstr B).size = 1 := by rw [bstr_size, hB]; rfl
      have hBl : B.length = 1 := by rw [hB]; rfl
      have hcv := fun (W : World) (g : Nat) (hW : W.heap[g]? = some (.cells (u8s B).toArray 5 (0, 0))) => conv_block (P := Try.prog) W 65 5 9 5 (0, 0) Try.underlying65 Try.underlying5 Try.underlying9 g 1 B 1 hBl hW
      have hh2 := fun W => hash_any W head C i hh (by omega)
      have hV : stepsV head i f (k + 1) x = shaV (head ++ beB i 2 ++ C) := by rw [hst, hC, hB]; rfl
      have hbj : Value.int .u8 (j : Int) = u8 b := by rw [hb, u8, UInt8.toNat_ofNat']; congr 1; omega
      have i2 : IntKind.u8.wrap (j : Int) = (j : Int) := by rw [IntKind.wrap_u8]; omega
      have HCV := Lib.hid hcv; have HH := Lib.hid hh2; have HB := Lib.hid hB; have HV := Lib.hid hV; have HJ := Lib.hid hj; have HBJ := Lib.hid hbj
      clear hcv hh2 hB hC hCl hV hBl hst hb hj hbj
      generalize shaV (head ++ beB i 2 ++ C) = V at HH HV
      go_wp2_with (refine wpList_buildByte rfl _ rfl b HBJ.out ?_)
      intro g w1 e1 c1 t1
      clear e1
      rw [← HB.out] at c1
      have hcv := HCV.out _ _ c1
      clear c1 HCV
      go_wp2_with fail
      refine (HH.out _).mono ?_
      rintro e w2 ⟨rfl, t2⟩
      have HP2 := Lib.hid ((HP.out.pure t1).pure t2)
      clear t1 t2 hcv
      go_wp2
      exact ⟨⟨k + 1, by omega, by rw [HV.out], by have := HJ.out; rw [this]; rfl, HP2⟩, by have := HT.out; have := HJ.out; simp [intOf]; omega⟩
    · obtain rfl : k = n := by omega
      have q1 : ¬ (((f + k : Nat) : Int) < t) := by have := HT.out; omega
      go_wp2
      go_ret
      exact ⟨rfl, HP.out⟩
end Go.Proofs.Ytcfbmbhkdicpfaa
