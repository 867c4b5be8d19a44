/- SHA-256's words. The digest of a text, in plain lists. The reference's bytes of a number (for seats without package wire). Hashes as values, for seats without package mlog. -/
import Derived.Test.YtcfbmbhkdicpfaaBase
import Derived.IntWalk
import Derived.Test.YtcfbmbhkdicpfaaRows
import Derived.Deep.DeepCutAuto
import Derived.Deep.RegionHeld3
import Derived.Great.Walk
namespace Go.Proofs.Ytcfbmbhkdicpfaa
open Go.RowKit

theorem wrapu32 (n : Int) (h0 : 0 ≤ n) (h1 : n < 2 ^ 32) : IntKind.u32.wrap n = n := by rw [IntKind.wrap_u32]; omega
theorem u32_and (a b : UInt32) : bits .and .u32 (a.toNat : Int) (b.toNat : Int) = ((a &&& b).toNat : Int) := by
  rw [(bits_nat .u32 32 (by decide) wrapu32 a.toNat b.toNat a.toNat_lt b.toNat_lt).1, UInt32.toNat_and]
theorem u32_or (a b : UInt32) : bits .or .u32 (a.toNat : Int) (b.toNat : Int) = ((a ||| b).toNat : Int) := by
  rw [(bits_nat .u32 32 (by decide) wrapu32 a.toNat b.toNat a.toNat_lt b.toNat_lt).2, UInt32.toNat_or]
theorem u32_xor (a b : UInt32) : bits .xor .u32 (a.toNat : Int) (b.toNat : Int) = ((a ^^^ b).toNat : Int) := by
  have e : ∀ c : UInt32, BitVec.ofInt 32 (c.toNat : Int) = c.toBitVec := fun c => by
    apply BitVec.eq_of_toNat_eq
    rw [BitVec.toNat_ofInt]
    have := c.toNat_lt
    simp
    omega
  show IntKind.u32.wrap ((BitVec.ofInt 32 (a.toNat : Int) ^^^ BitVec.ofInt 32 (b.toNat : Int)).toNat : Nat) = _
  rw [e, e, ← UInt32.toBitVec_xor]
  show IntKind.u32.wrap (((a ^^^ b).toNat : Nat) : Int) = _
  exact wrapu32 _ (by omega) (by have := (a ^^^ b).toNat_lt; omega)
theorem u32_add (a b : UInt32) : ((a.toNat : Int) + (b.toNat : Int)) % 4294967296 = ((a + b).toNat : Int) := by
  rw [UInt32.toNat_add]
  omega
theorem u32_shr (x : UInt32) (n : Nat) (h : n < 32) : (x.toNat : Int) / 2 ^ n = ((x >>> UInt32.ofNat n).toNat : Int) := by
  have e : (UInt32.ofNat n).toNat = n := by rw [UInt32.toNat_ofNat']; omega
  rw [UInt32.toNat_shiftRight, e, Nat.mod_eq_of_lt h, Nat.shiftRight_eq_div_pow]
  simp
theorem u32_shl (x : UInt32) (n : Nat) (h : n < 32) : (x.toNat : Int) * 2 ^ n % 4294967296 = ((x <<< UInt32.ofNat n).toNat : Int) := by
  have e : (UInt32.ofNat n).toNat = n := by rw [UInt32.toNat_ofNat']; omega
  rw [UInt32.toNat_shiftLeft, e, Nat.mod_eq_of_lt h, Nat.shiftLeft_eq]
  simp
/-- A word, turned to the right. -/
def rotU (x : UInt32) (n : Nat) : UInt32 := (x >>> UInt32.ofNat n) ||| (x <<< UInt32.ofNat (32 - n))
theorem rotU_val (x : UInt32) (n : Nat) (h1 : 1 ≤ n) (h2 : n ≤ 31) : bits .or .u32 ((x.toNat : Int) / 2 ^ n) ((x.toNat : Int) * 2 ^ (32 - n) % 4294967296) = ((rotU x n).toNat : Int) := by
  rw [u32_shr x n (by omega), u32_shl x (32 - n) (by omega), u32_or]
  rfl
theorem rotU_val' (x : UInt32) (n : Nat) (h1 : 1 ≤ n) (h2 : n ≤ 31) : bits .or .u32 ((x.toNat : Int) * 2 ^ (32 - n) % 4294967296) ((x.toNat : Int) / 2 ^ n) = ((rotU x n).toNat : Int) := by
  rw [u32_shr x n (by omega), u32_shl x (32 - n) (by omega), u32_or, UInt32.or_comm]
  rfl

def uw (x : UInt32) : Value := .int .u32 (x.toNat : Int)
def uws (l : List UInt32) : List Value := l.map uw
theorem uws_length (l : List UInt32) : (uws l).length = l.length := by simp [uws]
theorem uws_one (l : List UInt32) : ∀ u ∈ uws l, u.oneCell' = true := by
  intro u hu
  obtain ⟨b, _, rfl⟩ := List.mem_map.1 hu
  rfl

/-! The digest, in plain lists of words. -/
def be4 (a b c d : UInt8) : UInt32 := (a.toUInt32 <<< 24) ||| (b.toUInt32 <<< 16) ||| (c.toUInt32 <<< 8) ||| d.toUInt32
def sg0 (x : UInt32) : UInt32 := rotU x 7 ^^^ rotU x 18 ^^^ (x >>> 3)
def sg1 (x : UInt32) : UInt32 := rotU x 17 ^^^ rotU x 19 ^^^ (x >>> 10)
def wordAt (s : List UInt8) (ws : List UInt32) (i : Nat) : UInt32 :=
  if i < 16 then be4 (s.getD (4 * i) 0) (s.getD (4 * i + 1) 0) (s.getD (4 * i + 2) 0) (s.getD (4 * i + 3) 0)
  else ws.getD (i - 16) 0 + sg0 (ws.getD (i - 15) 0) + ws.getD (i - 7) 0 + sg1 (ws.getD (i - 2) 0)
def wordsOf (s : List UInt8) : Nat → List UInt32
  | 0 => []
  | n + 1 => wordsOf s n ++ [wordAt s (wordsOf s n) n]
theorem wordsOf_length (s : List UInt8) (n : Nat) : (wordsOf s n).length = n := by
  induction n with
  | zero => rfl
  | succ n ih => simp [wordsOf, ih]
structure V8 where
  a : UInt32
  b : UInt32
  c : UInt32
  d : UInt32
  e : UInt32
  f : UInt32
  g : UInt32
  h : UInt32
def V8.list (v : V8) : List UInt32 := [v.a, v.b, v.c, v.d, v.e, v.f, v.g, v.h]
def V8.add (v u : V8) : V8 := ⟨v.a + u.a, v.b + u.b, v.c + u.c, v.d + u.d, v.e + u.e, v.f + u.f, v.g + u.g, v.h + u.h⟩
def bs1 (x : UInt32) : UInt32 := rotU x 6 ^^^ rotU x 11 ^^^ rotU x 25
def bs0 (x : UInt32) : UInt32 := rotU x 2 ^^^ rotU x 13 ^^^ rotU x 22
def chU (e f g : UInt32) : UInt32 := (e &&& f) ^^^ (~~~e &&& g)
def maU (a b c : UInt32) : UInt32 := (a &&& b) ^^^ (a &&& c) ^^^ (b &&& c)
def roundT (k w : UInt32) (v : V8) : UInt32 := v.h + bs1 v.e + chU v.e v.f v.g + k + w
def roundU (v : V8) : UInt32 := bs0 v.a + maU v.a v.b v.c
def round (k w : UInt32) (v : V8) : V8 := ⟨roundT k w v + roundU v, v.a, v.b, v.c, v.d + roundT k w v, v.e, v.f, v.g⟩
def shaK : List UInt32 := [0x428a2f98, 0x71374491, 0xb5c0fbcf, 0xe9b5dba5, 0x3956c25b, 0x59f111f1, 0x923f82a4, 0xab1c5ed5, 0xd807aa98, 0x12835b01, 0x243185be, 0x550c7dc3, 0x72be5d74, 0x80deb1fe, 0x9bdc06a7, 0xc19bf174, 0xe49b69c1, 0xefbe4786, 0x0fc19dc6, 0x240ca1cc, 0x2de92c6f, 0x4a7484aa, 0x5cb0a9dc, 0x76f988da, 0x983e5152, 0xa831c66d, 0xb00327c8, 0xbf597fc7, 0xc6e00bf3, 0xd5a79147, 0x06ca6351, 0x14292967, 0x27b70a85, 0x2e1b2138, 0x4d2c6dfc, 0x53380d13, 0x650a7354, 0x766a0abb, 0x81c2c92e, 0x92722c85, 0xa2bfe8a1, 0xa81a664b, 0xc24b8b70, 0xc76c51a3, 0xd192e819, 0xd6990624, 0xf40e3585, 0x106aa070, 0x19a4c116, 0x1e376c08, 0x2748774c, 0x34b0bcb5, 0x391c0cb3, 0x4ed8aa4a, 0x5b9cca4f, 0x682e6ff3, 0x748f82ee, 0x78a5636f, 0x84c87814, 0x8cc70208, 0x90befffa, 0xa4506ceb, 0xbef9a3f7, 0xc67178f2]
def roundsOf (ws : List UInt32) (v : V8) : Nat → V8
  | 0 => v
  | n + 1 => round (shaK.getD n 0) (ws.getD n 0) (roundsOf ws v n)
/-- A block worked in. -/
def blockV (h : V8) (s : List UInt8) : V8 := h.add (roundsOf (wordsOf s 64) h 64)

set_option maxHeartbeats 1000000 in
theorem rot_any (w : World) (x : UInt32) (n : Nat) (h1 : 1 ≤ n) (h2 : n ≤ 31) :
    Calls Try.prog 158 #[.int .u32 (x.toNat : Int), .int .i64 (n : Int)] w fun e w' => e = .returned (.int .u32 ((rotU x n).toNat : Int)) ∧ ∃ m, w' = w.drewN m := by
  have hx := x.toNat_lt
  have b1 : 0 ≤ (n : Int) := by omega
  have b2 : 0 ≤ (32 : Int) - n := by omega
  have b4 : IntKind.i64.wrap ((32 : Int) - n) = 32 - n := IntWalk.i64_in _ (by omega)
  go_enter Try.func158, Try.ntmps158
  go_wp2
  go_quiet (fail)
  go_wp2
  go_ret
  refine ⟨?_, nq, rfl⟩
  rw [← rotU_val x n h1 h2]
  rfl

set_option maxHeartbeats 1000000 in
theorem rotl_any (w : World) (x : UInt32) (n : Nat) (h1 : 1 ≤ n) (h2 : n ≤ 31) :
    Calls Try.prog 157 #[.int .u32 (x.toNat : Int), .int .i64 (-(n : Int))] w fun e w' => e = .returned (.int .u32 ((rotU x n).toNat : Int)) ∧ w' = w := by
  have hx := x.toNat_lt
  have hk : bits .and .u64 (IntKind.u64.wrap (-(n : Int))) 31 = ((32 - n : Nat) : Int) := by
    have : ∀ m : Fin 32, 1 ≤ m.val → bits .and .u64 (IntKind.u64.wrap (-(m.val : Int))) 31 = ((32 - m.val : Nat) : Int) := by decide
    exact this ⟨n, by omega⟩ h1
  obtain ⟨m, hm⟩ : ∃ m : Nat, m = 32 - n := ⟨_, rfl⟩
  rw [← hm] at hk
  have hn : (32 : Int) - m = n := by omega
  have hm1 : m ≤ 31 := by omega
  have HR := Lib.hid (rotU_val' x n h1 h2)
  rw [← hm] at HR
  have HM := Lib.hid hm; clear hm
  go_enter Try.func157, Try.ntmps157
  go_wp2
  rw [HR.out]
  go_ret
  exact ⟨rfl, rfl⟩

def blockAt (s : List UInt8) (n : Nat) : List UInt8 := (s.drop (64 * n)).take 64
theorem blockAt_length {s : List UInt8} {n : Nat} (h : 64 * n + 64 ≤ s.length) : (blockAt s n).length = 64 := by simp [blockAt]; omega
/-- So many blocks of a text worked in. -/
def blocksV (h : V8) (s : List UInt8) : Nat → V8
  | 0 => h
  | n + 1 => blockV (blocksV h s n) (blockAt s n)
def shaH0 : V8 := ⟨0x6a09e667, 0xbb67ae85, 0x3c6ef372, 0xa54ff53a, 0x510e527f, 0x9b05688c, 0x1f83d9ab, 0x5be0cd19⟩
def zerosOf (n : Nat) : Nat := (119 - n % 64) % 64
def padOf (n : Nat) : List UInt8 := 128 :: (List.replicate (zerosOf n) 0 ++ beB (8 * n) 8)
theorem padOf_length (n : Nat) : (padOf n).length = 9 + zerosOf n := by simp [padOf, beB_length]; omega
def outAt (v : V8) (i : Nat) : UInt8 := UInt8.ofNat ((v.list.getD (i / 4) 0).toNat / 2 ^ (24 - 8 * (i % 4)))
def outV (v : V8) : List UInt8 := (List.range 32).map (outAt v)
theorem outV_length (v : V8) : (outV v).length = 32 := by simp [outV]
def restOf (s : List UInt8) : List UInt8 := s.drop (64 * (s.length / 64))
theorem restOf_length (s : List UInt8) : (restOf s).length = s.length % 64 := by simp [restOf]; omega
def lastOf (s : List UInt8) : List UInt8 := restOf s ++ padOf s.length
theorem lastOf_length (s : List UInt8) : (lastOf s).length = s.length % 64 + 9 + zerosOf s.length := by simp [lastOf, padOf_length, restOf_length]; omega
theorem lastOf_whole (s : List UInt8) : (lastOf s).length = 64 * ((lastOf s).length / 64) := by rw [lastOf_length]; simp only [zerosOf]; omega
/-- The digest of a text. -/
def shaV (s : List UInt8) : List UInt8 := outV (blocksV (blocksV shaH0 s (s.length / 64)) (lastOf s) ((lastOf s).length / 64))
theorem shaV_length (s : List UInt8) : (shaV s).length = 32 := outV_length _

/-- The bytes that are written after k rounds. -/
def outCur (v : V8) (k : Nat) : List UInt8 := (outV v).take k ++ List.replicate (32 - k) 0
theorem outCur_zero (v : V8) : outCur v 0 = List.replicate 32 0 := by simp [outCur]
theorem outCur_full (v : V8) : outCur v 32 = outV v := by
  rw [outCur, List.take_of_length_le (by rw [outV_length]; exact Nat.le_refl _)]
  simp
theorem outCur_length (v : V8) (k : Nat) (h : k ≤ 32) : (outCur v k).length = 32 := by simp [outCur, outV_length]; omega
theorem outAt_cell (v : V8) (k : Nat) : Value.int .u8 (((v.list.getD (k / 4) 0).toNat : Int) / 2 ^ (24 - 8 * (k % 4)) % 256) = u8 (outAt v k) := by
  rw [u8, outAt, UInt8.toNat_ofNat']
  simp
theorem outCur_set (v : V8) (k : Nat) (h : k < 32) : (u8s (outCur v k)).toArray.setIfInBounds k (u8 (outAt v k)) = (u8s (outCur v (k + 1))).toArray := by
  apply Array.toList_inj.1
  have hl : ((outV v).take k).length = k := by simp [outV_length]; omega
  have e : (outV v).take (k + 1) = (outV v).take k ++ [outAt v k] := by
    rw [List.take_add_one]
    simp [outV, h]
  have r : List.replicate (32 - k) (0 : UInt8) = 0 :: List.replicate (32 - (k + 1)) 0 := by
    rw [show 32 - k = (32 - (k + 1)) + 1 from by omega, List.replicate_succ]
  simp only [Array.toList_setIfInBounds, u8s, outCur, e, r, List.map_append, List.map_cons, List.append_assoc, List.cons_append, List.nil_append]
  rw [List.set_append_right _ _ (by rw [List.length_map, hl]; exact Nat.le_refl _), List.length_map, hl]
  simp

theorem Try.infoU8S : (Try.prog.info? 5).map (fun i => (i.zero, i.size, i.bytes)) = some (some (.int .u8 0), 1, 1) := by kernel_rfl

theorem made_u8S (n : Nat) : madeCells #[Value.int .u8 0] n = (u8s (List.replicate n 0)).toArray := by
  apply Array.toList_inj.1
  simp only [madeCells, u8s, u8, Array.toList_map, List.map_replicate]
  apply List.ext_getElem
  · simp
  · intro i h1 h2
    simp [Nat.mod_one]

theorem make_u8S (w : World) (n : Nat) (hn : n ≤ 1099511627776) :
    (Instr.makeSlice 65 (.int .i64 n) (.int .i64 n)).run Try.prog w = .ok (.slice (some ⟨w.heap.size, 0, none⟩) n n) (w.alloc (.cells (u8s (List.replicate n 0)).toArray 5)) := by
  obtain ⟨i, hi, h1, h2, h3⟩ := info_parts Try.infoU8S
  have := run_make (P := Try.prog) w 65 5 i (.int .u8 0) Try.underlying65 hi h1 .i64 .i64 n n (by omega) (by omega) (by rw [h3]; omega) (by omega)
  rw [this, h2]
  simp [Value.cells, made_u8S]

theorem beB_getS (x n k : Nat) (h : k < n) : (beB x n)[k]? = some (UInt8.ofNat (x >>> (8 * (n - 1 - k)))) := by
  induction n generalizing k with
  | zero => omega
  | succ n ih =>
    cases k with
    | zero => simp [beB]
    | succ k =>
      rw [beB, List.getElem?_cons_succ, ih k (by omega)]
      rw [show n - 1 - k = n + 1 - 1 - (k + 1) from by omega]
/-- The bytes of a number of which the last k are written. -/
def beTailS (x n k : Nat) : List UInt8 := List.replicate (n - k) 0 ++ (beB x n).drop (n - k)
theorem beTail_zeroS (x n : Nat) : beTailS x n 0 = List.replicate n 0 := by simp [beTailS, beB_length, List.drop_of_length_le]
theorem beTail_fullS (x n : Nat) : beTailS x n n = beB x n := by simp [beTailS]
theorem beTail_lengthS (x n k : Nat) (h : k ≤ n) : (beTailS x n k).length = n := by
  simp only [beTailS, List.length_append, List.length_replicate, List.length_drop, beB_length]; omega
theorem beTail_setS (x n k : Nat) (h : k < n) : ((u8s (beTailS x n k)).set (n - 1 - k) (Value.int .u8 (((x >>> (8 * k)) % 256 : Nat) : Int))).toArray = (u8s (beTailS x n (k + 1))).toArray := by
  congr 1
  have hb : Value.int .u8 (((x >>> (8 * k)) % 256 : Nat) : Int) = u8 (UInt8.ofNat (x >>> (8 * k))) := by rw [u8, UInt8.toNat_ofNat']
  rw [hb]
  have hg := beB_getS x n (n - 1 - k) (by omega)
  rw [show n - 1 - (n - 1 - k) = k from by omega] at hg
  have e : (beB x n).drop (n - (k + 1)) = UInt8.ofNat (x >>> (8 * k)) :: (beB x n).drop (n - k) := by
    rw [show n - (k + 1) = n - 1 - k from by omega, List.drop_eq_getElem_cons (by rw [beB_length]; omega), show n - 1 - k + 1 = n - k from by omega]
    rw [List.getElem?_eq_getElem (by rw [beB_length]; omega)] at hg
    rw [Option.some.inj hg]
  have r : List.replicate (n - k) (0 : UInt8) = List.replicate (n - (k + 1)) 0 ++ [0] := by
    rw [show n - k = n - (k + 1) + 1 from by omega, List.replicate_succ']
  simp only [u8s, beTailS, e, r, List.map_append, List.map_cons, List.append_assoc, List.cons_append, List.nil_append]
  rw [List.set_append_right _ _ (by simp; omega)]
  simp [show n - 1 - k - (n - (k + 1)) = 0 from by omega]

theorem and255S (x : Nat) (h : x < 9223372036854775808) : bits .and .i64 (x : Int) 255 = ((x % 256 : Nat) : Int) := by
  have := bits_mask .i64 63 (by decide) (fun n a c => by rw [IntKind.wrap_i64]; omega) 8 (by decide) (x : Int) (by omega) (by omega)
  simpa using this

set_option maxHeartbeats 400000 in
theorem Be_anyS (x n : Nat) (w : World) (hn : n ≤ 1000) (hx : x < 9223372036854775808) :
    Calls Try.prog 37 #[.int .i64 x, .int .i64 n] w fun e w' => e = .returned (.string (bstr (beB x n))) ∧ Pure w w' := by
  have hmk := make_u8S w n (by omega)
  go_enter Try.func37, Try.ntmps37
  go_wp2
  clear hmk
  go_loopw [0, 6] (fun y i wr => ∃ k : Nat, k ≤ n ∧ y = .int .i64 ((x >>> (8 * k) : Nat) : Int) ∧ i = .int .i64 ((n : Int) - 1 - k) ∧ wr = w.alloc (.cells (u8s (beTailS x n k)).toArray 5)) (fun _ i _ => (intOf i + 1).toNat)
  case atStart => exact ⟨0, by omega, by simp, by simp, by rw [beTail_zeroS]⟩
  case round =>
    obtain ⟨k, hk, rfl, rfl, rfl⟩ := hrel
    have hsx : x >>> (8 * k) < 9223372036854775808 := Nat.lt_of_le_of_lt (Nat.shiftRight_le _ _) hx
    have hdiv : x >>> (8 * (k + 1)) = (x >>> (8 * k)) / 256 := by rw [show 8 * (k + 1) = 8 * k + 8 from by omega, Nat.shiftRight_add, Nat.shiftRight_eq_div_pow _ 8]
    have HD := Lib.hid hdiv; clear hdiv
    by_cases hlt : k < n
    · obtain ⟨j, hj⟩ : ∃ j : Nat, n = j + 1 + k := ⟨n - 1 - k, by omega⟩
      have ej : ((n : Int) - 1 - k) = (j : Int) := by omega
      rw [ej]
      have hand := and255S _ hsx
      generalize hy : x >>> (8 * k) = y at hsx hand HD
      have HY := Lib.hid hy; clear hy
      have hc : (w.alloc (.cells (u8s (beTailS x n k)).toArray 5)).cell? ⟨w.heap.size, j, none⟩ = some (u8 ((beTailS x n k).getD j 0)) := by
        rw [World.cell?_alloc_new]; simp [u8s, List.getD, beTail_lengthS x n k hk, show j < n by omega]
      have hjn : j < n := by omega
      have HJ := Lib.hid hj; clear hj
      clear ej
      go_wp2
      refine ⟨⟨k + 1, by omega, by rw [HD.out]; go_num, by have := HJ.out; go_num, ?_⟩, by simp [intOf]⟩
      have e := beTail_setS x n k hlt
      rw [show n - 1 - k = j from by have := HJ.out; omega, HY.out] at e
      rw [← e]
      rfl
    · obtain rfl : k = n := by omega
      have ek : ((k : Int) - 1 - k) = -1 := by omega
      rw [ek, beTail_fullS]
      have hcv := conv_block (P := Try.prog) (w.alloc (.cells (u8s (beB x k)).toArray 5)) 65 5 9 5 (0, 0) Try.underlying65 Try.underlying5 Try.underlying9 w.heap.size k (beB x k) k (beB_length _ _) (heap_alloc_new _ _)
      go_wp2
      go_ret
      exact ⟨rfl, (Turn.refl _ _).alloc _⟩


theorem zero28 : (Try.prog.info? 62).bind (·.zero) = some (.agg (u8s (List.replicate 32 0)).toArray) := by kernel_rfl
theorem info28 : (Try.prog.info? 62).map (·.size) = some 32 := by kernel_rfl
theorem ex28 : ∃ X : List Value, X.length = 32 ∧ Hid ((Try.prog.info? 62).bind (·.zero) = some (.agg X.toArray)) := ⟨_, rfl, Lib.hid zero28⟩
theorem info28_l {l : List UInt8} (h : l.length = 32) : (Try.prog.info? 62).map (·.size) = some (u8s l).length := by rw [u8s_length, h]; exact info28
theorem info28_a {l : List UInt8} (h : l.length = 32) : (Try.prog.info? 62).map (·.size) = some (u8s l).toArray.size := by rw [List.size_toArray]; exact info28_l h
theorem size28 {X : List Value} {l : List UInt8} (hX : X.length = 32) (h : l.length = 32) : X.toArray.size = (u8s l).length := by rw [List.size_toArray, hX, u8s_length, h]

theorem Turn.range {S : Nat → Prop} {w w' : World} (h : Turn S w w') {b o : Nat} {cs : List Value} (hr : w.rangeAt b o cs) (hn : ¬ S b) : w'.rangeAt b o cs := fun j v hj => h.cell (hr j v hj) hn
theorem Turn.there {S : Nat → Prop} {w w' : World} (h : Turn S w w') {b o n : Nat} (ht : w.there b o n) (hn : ¬ S b) : w'.there b o n := fun j hj => by
  obtain ⟨h1, h2⟩ := ht j hj
  obtain ⟨v, hv⟩ := Option.isSome_iff_exists.1 h1
  have hb : b < w.heap.size := World.block_lt_of_cell? w _ hv
  exact ⟨by rw [h.cell hv hn]; rfl, by rw [World.frozen?_of_block (h.block b hb hn)]; exact h2⟩
theorem there_row {w : World} {g n : Nat} {X : List Value} {T : TypeId} (h : w.heap[g]? = some (.cells X.toArray T (0, 0))) (hX : X.length = n) : w.there g 0 n := fun j hj => by
  rw [Nat.zero_add, cell_of_row w g j _ _ _ h, frozen_of_row w g j _ _ h]
  exact ⟨by simp; omega, rfl⟩


set_option maxHeartbeats 400000 in
theorem T_any (w : World) (l : List UInt8) (hl : l.length = 32) :
    Calls Try.prog 58 #[hv l] w fun e w' => e = .returned (.string (bstr l)) ∧ Pure w w' := by
  have hcv := conv_block (P := Try.prog) (w.alloc (.cells (u8s l).toArray 62)) 65 5 9 62 (0, 0) Try.underlying65 Try.underlying5 Try.underlying9 w.heap.size 32 l 32 hl (heap_alloc_new _ _)
  go_enter Try.func58, Try.ntmps58
  go_wp2
  go_ret
  exact ⟨rfl, (Turn.refl _ w).alloc _⟩

theorem eq28 (w : World) {a b : List UInt8} (ha : a.length = 32) (hb : b.length = 32) : (binOp .eql 62 (hv a) (hv b)).run Try.prog w = .ok (.bool (a == b)) w := by
  obtain ⟨i, hi, h1, h2, h3⟩ := info_parts Try.infoU8S
  exact eql_bytes w 62 5 32 Try.underlying62 Try.underlying5 (fun w => by simp [sizeOf, typeInfo, hi, h2]) a b ha hb
theorem neq28 (w : World) {a b : List UInt8} (ha : a.length = 32) (hb : b.length = 32) : (binOp .neq 62 (hv a) (hv b)).run Try.prog w = .ok (.bool (!(a == b))) w := by
  obtain ⟨i, hi, h1, h2, h3⟩ := info_parts Try.infoU8S
  exact neq_bytes w 62 5 32 Try.underlying62 Try.underlying5 (fun w => by simp [sizeOf, typeInfo, hi, h2]) a b ha hb
theorem same28 (w : World) {a : List UInt8} (ha : a.length = 32) : (binOp .eql 62 (hv a) (hv a)).run Try.prog w = .ok (.bool true) w := by
  rw [eq28 w ha ha, beq_self_eq_true]
set_option maxHeartbeats 400000 in
theorem Num9_any (w : World) (x : Int) : Calls Try.prog 15 #[.int .i64 x] w fun e w' => e = .returned (.int .i64 x) ∧ w' = w := by
  go_enter Try.func15, Try.ntmps15
  go_wp2
  go_ret
  exact ⟨rfl, rfl⟩
end Go.Proofs.Ytcfbmbhkdicpfaa
