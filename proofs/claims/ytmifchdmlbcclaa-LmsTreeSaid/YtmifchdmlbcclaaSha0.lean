/- SHA-256's words. -/
import Derived.Test.YtmifchdmlbcclaaBase
import Derived.IntWalk
import Derived.Test.YtmifchdmlbcclaaRows
namespace Go.Proofs.Ytmifchdmlbcclaa
open Go.RowKit

theorem wrapu32 (n : Int) (h0 : 0 ≤ n) (h1 : n < 2 ^ 32) : IntKind.u32.wrap n = n := by rw [IntKind.wrap_u32]; omega
theorem u32_and (a b : UInt32) : bits .and .u32 (a.toNat : Int) (b.toNat : Int) = ((a &&& b).toNat : Int) := by
  rw [(bits_nat .u32 32 (by decide) wrapu32 a.toNat b.toNat a.toNat_lt b.toNat_lt).1, UInt32.toNat_and]
theorem u32_or (a b : UInt32) : bits .or .u32 (a.toNat : Int) (b.toNat : Int) = ((a ||| b).toNat : Int) := by
  rw [(bits_nat .u32 32 (by decide) wrapu32 a.toNat b.toNat a.toNat_lt b.toNat_lt).2, UInt32.toNat_or]
theorem u32_xor (a b : UInt32) : bits .xor .u32 (a.toNat : Int) (b.toNat : Int) = ((a ^^^ b).toNat : Int) := by
  have e : ∀ c : UInt32, BitVec.ofInt 32 (c.toNat : Int) = c.toBitVec := fun c => by
    apply BitVec.eq_of_toNat_eq
    rw [BitVec.toNat_ofInt]
    have := c.toNat_lt
    simp
    omega
  show IntKind.u32.wrap ((BitVec.ofInt 32 (a.toNat : Int) ^^^ BitVec.ofInt 32 (b.toNat : Int)).toNat : Nat) = _
  rw [e, e, ← UInt32.toBitVec_xor]
  show IntKind.u32.wrap (((a ^^^ b).toNat : Nat) : Int) = _
  exact wrapu32 _ (by omega) (by have := (a ^^^ b).toNat_lt; omega)
theorem u32_add (a b : UInt32) : ((a.toNat : Int) + (b.toNat : Int)) % 4294967296 = ((a + b).toNat : Int) := by
  rw [UInt32.toNat_add]
  omega
theorem u32_shr (x : UInt32) (n : Nat) (h : n < 32) : (x.toNat : Int) / 2 ^ n = ((x >>> UInt32.ofNat n).toNat : Int) := by
  have e : (UInt32.ofNat n).toNat = n := by rw [UInt32.toNat_ofNat']; omega
  rw [UInt32.toNat_shiftRight, e, Nat.mod_eq_of_lt h, Nat.shiftRight_eq_div_pow]
  simp
theorem u32_shl (x : UInt32) (n : Nat) (h : n < 32) : (x.toNat : Int) * 2 ^ n % 4294967296 = ((x <<< UInt32.ofNat n).toNat : Int) := by
  have e : (UInt32.ofNat n).toNat = n := by rw [UInt32.toNat_ofNat']; omega
  rw [UInt32.toNat_shiftLeft, e, Nat.mod_eq_of_lt h, Nat.shiftLeft_eq]
  simp
/-- A word, turned to the right. -/
def rotU (x : UInt32) (n : Nat) : UInt32 := (x >>> UInt32.ofNat n) ||| (x <<< UInt32.ofNat (32 - n))
theorem rotU_val (x : UInt32) (n : Nat) (h1 : 1 ≤ n) (h2 : n ≤ 31) : bits .or .u32 ((x.toNat : Int) / 2 ^ n) ((x.toNat : Int) * 2 ^ (32 - n) % 4294967296) = ((rotU x n).toNat : Int) := by
  rw [u32_shr x n (by omega), u32_shl x (32 - n) (by omega), u32_or]
  rfl
theorem rotU_val' (x : UInt32) (n : Nat) (h1 : 1 ≤ n) (h2 : n ≤ 31) : bits .or .u32 ((x.toNat : Int) * 2 ^ (32 - n) % 4294967296) ((x.toNat : Int) / 2 ^ n) = ((rotU x n).toNat : Int) := by
  rw [u32_shr x n (by omega), u32_shl x (32 - n) (by omega), u32_or, UInt32.or_comm]
  rfl

def uw (x : UInt32) : Value := .int .u32 (x.toNat : Int)
def uws (l : List UInt32) : List Value := l.map uw
theorem uws_length (l : List UInt32) : (uws l).length = l.length := by simp [uws]
theorem uws_one (l : List UInt32) : ∀ u ∈ uws l, u.oneCell' = true := by
  intro u hu
  obtain ⟨b, _, rfl⟩ := List.mem_map.1 hu
  rfl

/-! The digest, in plain lists of words. -/
def be4 (a b c d : UInt8) : UInt32 := (a.toUInt32 <<< 24) ||| (b.toUInt32 <<< 16) ||| (c.toUInt32 <<< 8) ||| d.toUInt32
def sg0 (x : UInt32) : UInt32 := rotU x 7 ^^^ rotU x 18 ^^^ (x >>> 3)
def sg1 (x : UInt32) : UInt32 := rotU x 17 ^^^ rotU x 19 ^^^ (x >>> 10)
def wordAt (s : List UInt8) (ws : List UInt32) (i : Nat) : UInt32 :=
  if i < 16 then be4 (s.getD (4 * i) 0) (s.getD (4 * i + 1) 0) (s.getD (4 * i + 2) 0) (s.getD (4 * i + 3) 0)
  else ws.getD (i - 16) 0 + sg0 (ws.getD (i - 15) 0) + ws.getD (i - 7) 0 + sg1 (ws.getD (i - 2) 0)
def wordsOf (s : List UInt8) : Nat → List UInt32
  | 0 => []
  | n + 1 => wordsOf s n ++ [wordAt s (wordsOf s n) n]
theorem wordsOf_length (s : List UInt8) (n : Nat) : (wordsOf s n).length = n := by
  induction n with
  | zero => rfl
  | succ n ih => simp [wordsOf, ih]
structure V8 where
  a : UInt32
  b : UInt32
  c : UInt32
  d : UInt32
  e : UInt32
  f : UInt32
  g : UInt32
  h : UInt32
def V8.list (v : V8) : List UInt32 := [v.a, v.b, v.c, v.d, v.e, v.f, v.g, v.h]
def V8.add (v u : V8) : V8 := ⟨v.a + u.a, v.b + u.b, v.c + u.c, v.d + u.d, v.e + u.e, v.f + u.f, v.g + u.g, v.h + u.h⟩
def bs1 (x : UInt32) : UInt32 := rotU x 6 ^^^ rotU x 11 ^^^ rotU x 25
def bs0 (x : UInt32) : UInt32 := rotU x 2 ^^^ rotU x 13 ^^^ rotU x 22
def chU (e f g : UInt32) : UInt32 := (e &&& f) ^^^ (~~~e &&& g)
def maU (a b c : UInt32) : UInt32 := (a &&& b) ^^^ (a &&& c) ^^^ (b &&& c)
def roundT (k w : UInt32) (v : V8) : UInt32 := v.h + bs1 v.e + chU v.e v.f v.g + k + w
def roundU (v : V8) : UInt32 := bs0 v.a + maU v.a v.b v.c
def round (k w : UInt32) (v : V8) : V8 := ⟨roundT k w v + roundU v, v.a, v.b, v.c, v.d + roundT k w v, v.e, v.f, v.g⟩
def shaK : List UInt32 := [0x428a2f98, 0x71374491, 0xb5c0fbcf, 0xe9b5dba5, 0x3956c25b, 0x59f111f1, 0x923f82a4, 0xab1c5ed5, 0xd807aa98, 0x12835b01, 0x243185be, 0x550c7dc3, 0x72be5d74, 0x80deb1fe, 0x9bdc06a7, 0xc19bf174, 0xe49b69c1, 0xefbe4786, 0x0fc19dc6, 0x240ca1cc, 0x2de92c6f, 0x4a7484aa, 0x5cb0a9dc, 0x76f988da, 0x983e5152, 0xa831c66d, 0xb00327c8, 0xbf597fc7, 0xc6e00bf3, 0xd5a79147, 0x06ca6351, 0x14292967, 0x27b70a85, 0x2e1b2138, 0x4d2c6dfc, 0x53380d13, 0x650a7354, 0x766a0abb, 0x81c2c92e, 0x92722c85, 0xa2bfe8a1, 0xa81a664b, 0xc24b8b70, 0xc76c51a3, 0xd192e819, 0xd6990624, 0xf40e3585, 0x106aa070, 0x19a4c116, 0x1e376c08, 0x2748774c, 0x34b0bcb5, 0x391c0cb3, 0x4ed8aa4a, 0x5b9cca4f, 0x682e6ff3, 0x748f82ee, 0x78a5636f, 0x84c87814, 0x8cc70208, 0x90befffa, 0xa4506ceb, 0xbef9a3f7, 0xc67178f2]
def roundsOf (ws : List UInt32) (v : V8) : Nat → V8
  | 0 => v
  | n + 1 => round (shaK.getD n 0) (ws.getD n 0) (roundsOf ws v n)
/-- A block worked in. -/
def blockV (h : V8) (s : List UInt8) : V8 := h.add (roundsOf (wordsOf s 64) h 64)

set_option maxHeartbeats 1000000 in
theorem rot_any (w : World) (x : UInt32) (n : Nat) (h1 : 1 ≤ n) (h2 : n ≤ 31) :
    Calls Try.prog 80 #[.int .u32 (x.toNat : Int), .int .i64 (n : Int)] w fun e w' => e = .returned (.int .u32 ((rotU x n).toNat : Int)) ∧ ∃ m, w' = w.drewN m := by
  have hx := x.toNat_lt
  have b1 : 0 ≤ (n : Int) := by omega
  have b2 : 0 ≤ (32 : Int) - n := by omega
  have b4 : IntKind.i64.wrap ((32 : Int) - n) = 32 - n := IntWalk.i64_in _ (by omega)
  go_enter Try.func80, Try.ntmps80
  go_wp2
  go_quiet (fail)
  go_wp2
  go_ret
  refine ⟨?_, nq, rfl⟩
  rw [← rotU_val x n h1 h2]
  rfl

set_option maxHeartbeats 1000000 in
theorem rotl_any (w : World) (x : UInt32) (n : Nat) (h1 : 1 ≤ n) (h2 : n ≤ 31) :
    Calls Try.prog 87 #[.int .u32 (x.toNat : Int), .int .i64 (-(n : Int))] w fun e w' => e = .returned (.int .u32 ((rotU x n).toNat : Int)) ∧ w' = w := by
  have hx := x.toNat_lt
  have hk : bits .and .u64 (IntKind.u64.wrap (-(n : Int))) 31 = ((32 - n : Nat) : Int) := by
    have : ∀ m : Fin 32, 1 ≤ m.val → bits .and .u64 (IntKind.u64.wrap (-(m.val : Int))) 31 = ((32 - m.val : Nat) : Int) := by decide
    exact this ⟨n, by omega⟩ h1
  obtain ⟨m, hm⟩ : ∃ m : Nat, m = 32 - n := ⟨_, rfl⟩
  rw [← hm] at hk
  have hn : (32 : Int) - m = n := by omega
  have hm1 : m ≤ 31 := by omega
  have HR := Lib.hid (rotU_val' x n h1 h2)
  rw [← hm] at HR
  have HM := Lib.hid hm; clear hm
  go_enter Try.func87, Try.ntmps87
  go_wp2
  rw [HR.out]
  go_ret
  exact ⟨rfl, rfl⟩
end Go.Proofs.Ytmifchdmlbcclaa
