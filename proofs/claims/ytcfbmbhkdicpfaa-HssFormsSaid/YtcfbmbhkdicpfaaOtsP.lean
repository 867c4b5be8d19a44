/- Chapter 4: one-time signatures, in plain Lean. -/
import Derived.Test.YtcfbmbhkdicpfaaSha0
namespace Go.Proofs.Ytcfbmbhkdicpfaa
open Go.RowKit

/-- A chain's steps, so many, from one on. -/
def stepsV (head : List UInt8) (i : Nat) : Nat → Nat → List UInt8 → List UInt8
  | _, 0, x => x
  | f, n + 1, x => stepsV head i (f + 1) n (shaV (head ++ beB i 2 ++ UInt8.ofNat f :: x))
theorem stepsV_add (head : List UInt8) (i : Nat) : ∀ (a b f : Nat) (x : List UInt8), stepsV head i f (a + b) x = stepsV head i (f + a) b (stepsV head i f a x)
  | 0, b, f, x => by simp [stepsV]
  | a + 1, b, f, x => by
    rw [show a + 1 + b = (a + b) + 1 from by omega]
    simp only [stepsV]
    rw [stepsV_add head i a b (f + 1), show f + 1 + a = f + (a + 1) from by omega]
theorem stepsV_last (head : List UInt8) (i f n : Nat) (x : List UInt8) : stepsV head i f (n + 1) x = shaV (head ++ beB i 2 ++ UInt8.ofNat (f + n) :: stepsV head i f n x) := by
  rw [stepsV_add head i n 1 f x]; rfl
theorem stepsV_length (head : List UInt8) (i : Nat) : ∀ (n f : Nat) (x : List UInt8), x.length = 32 → (stepsV head i f n x).length = 32
  | 0, _, _, h => h
  | n + 1, f, _, _ => stepsV_length head i n (f + 1) _ (shaV_length _)
/-- A chain's private part. -/
def startV (head : List UInt8) (i : Nat) (seed : List UInt8) : List UInt8 := shaV (head ++ beB i 2 ++ 255 :: seed)
theorem startV_length (head : List UInt8) (i : Nat) (seed : List UInt8) : (startV head i seed).length = 32 := shaV_length _
/-- One digit of bytes. -/
def digV (w : Nat) (s : List UInt8) (i : Nat) : Nat := ((s.getD (i * w / 8) 0).toNat / 2 ^ (8 - w - i * w % 8)) % 2 ^ w
theorem digV_lt (w : Nat) (s : List UInt8) (i : Nat) : digV w s i < 2 ^ w := Nat.mod_lt _ (Nat.two_pow_pos w)
/-- What the digits want, summed. -/
def sumV (w : Nat) (s : List UInt8) : Nat → Nat
  | 0 => 0
  | n + 1 => sumV w s n + (2 ^ w - 1 - digV w s n)
theorem sumV_le (w : Nat) (s : List UInt8) (n : Nat) : sumV w s n ≤ n * (2 ^ w - 1) := by
  induction n with
  | zero => simp [sumV]
  | succ n ih => simp only [sumV, Nat.succ_mul]; omega
/-- The digits of a message's digest, with those of their sum. -/
def digitsV (w p ls : Nat) (q : List UInt8) : List Nat := (List.range (256 / w)).map (digV w q) ++ (List.range (p - 256 / w)).map (digV w (beB (sumV w q (256 / w) * 2 ^ ls) 2))
theorem digitsV_length (w p ls : Nat) (q : List UInt8) (h : 256 / w ≤ p) : (digitsV w p ls q).length = p := by simp [digitsV]; omega
theorem digitsV_lt (w p ls : Nat) (q : List UInt8) : ∀ d ∈ digitsV w p ls q, d < 2 ^ w := by
  intro d hd
  rcases List.mem_append.1 hd with h | h <;> (obtain ⟨i, _, rfl⟩ := List.mem_map.1 h; exact digV_lt _ _ _)
/-- All chains, one behind the other: from the first n parts, each so many steps from where it stands. -/
def chainsV (head : List UInt8) (from_ cnt : Nat → Nat) (x : Nat → List UInt8) : Nat → List UInt8
  | 0 => []
  | n + 1 => chainsV head from_ cnt x n ++ stepsV head n (from_ n) (cnt n) (x n)
theorem chainsV_length (head : List UInt8) (from_ cnt : Nat → Nat) (x : Nat → List UInt8) (n : Nat) (h : ∀ i, i < n → (x i).length = 32) : (chainsV head from_ cnt x n).length = 32 * n := by
  induction n with
  | zero => rfl
  | succ n ih =>
    simp only [chainsV, List.length_append]
    rw [ih fun i hi => h i (by omega), stepsV_length _ _ _ _ _ (h n (by omega))]
    omega
theorem chainsV_congr (head : List UInt8) (f f' c c' : Nat → Nat) (x x' : Nat → List UInt8) (n : Nat) (h : ∀ i, i < n → stepsV head i (f i) (c i) (x i) = stepsV head i (f' i) (c' i) (x' i)) : chainsV head f c x n = chainsV head f' c' x' n := by
  induction n with
  | zero => rfl
  | succ n ih => simp only [chainsV]; rw [ih fun i hi => h i (by omega), h n (by omega)]
/-- One of the chains. -/
theorem chainsV_at (head : List UInt8) (f c : Nat → Nat) (x : Nat → List UInt8) : ∀ (n i : Nat) (rest : List UInt8), i < n → (∀ j, j < n → (x j).length = 32) → (((chainsV head f c x n) ++ rest).drop (32 * i)).take 32 = stepsV head i (f i) (c i) (x i)
  | 0, _, _, h, _ => by omega
  | n + 1, i, rest, h, hx => by
    have hl := chainsV_length head f c x n fun j hj => hx j (by omega)
    have hs := stepsV_length head n (c n) (f n) (x n) (hx n (by omega))
    simp only [chainsV, List.append_assoc]
    by_cases he : i = n
    · subst he
      rw [List.drop_append_of_le_length (by omega), List.drop_of_length_le (by omega), List.nil_append, List.take_append_of_le_length (by omega), List.take_of_length_le (by omega)]
    · exact chainsV_at head f c x n i _ (by omega) fun j hj => hx j (by omega)
/-- The place that stands ahead. -/
def placeV (id : List UInt8) (q : Nat) : List UInt8 := id ++ beB q 4
/-- A public key. -/
def otsPubV (w p : Nat) (head seed : List UInt8) : List UInt8 := shaV (head ++ beB 0x8080 2 ++ chainsV head (fun _ => 0) (fun _ => 2 ^ w - 1) (fun i => startV head i seed) p)
/-- What is random in a signature. -/
def otsCV (head seed : List UInt8) : List UInt8 := shaV (head ++ beB 0xfffd 2 ++ 255 :: seed)
/-- A message's digest. -/
def otsQV (head c msg : List UInt8) : List UInt8 := shaV (head ++ beB 0x8181 2 ++ (c ++ msg))
/-- A signature. -/
def otsSignV (kind w p ls : Nat) (head seed msg : List UInt8) : List UInt8 :=
  beB kind 4 ++ otsCV head seed ++ chainsV head (fun _ => 0) (fun i => (digitsV w p ls (otsQV head (otsCV head seed) msg)).getD i 0) (fun i => startV head i seed) p
/-- What a signature makes. -/
def otsCandV (w p ls : Nat) (head msg sign : List UInt8) : List UInt8 :=
  shaV (head ++ beB 0x8080 2 ++ chainsV head (fun i => (digitsV w p ls (otsQV head ((sign.drop 4).take 32) msg)).getD i 0) (fun i => 2 ^ w - 1 - (digitsV w p ls (otsQV head ((sign.drop 4).take 32) msg)).getD i 0) (fun i => (sign.drop (36 + 32 * i)).take 32) p)
/-- What was signed makes the public key. -/
theorem ots_back (kind w p ls : Nat) (head seed msg : List UInt8) : otsCandV w p ls head msg (otsSignV kind w p ls head seed msg) = otsPubV w p head seed := by
  have h4 : (beB kind 4).length = 4 := beB_length _ _
  have hc : (otsCV head seed).length = 32 := shaV_length _
  have e1 : ((otsSignV kind w p ls head seed msg).drop 4).take 32 = otsCV head seed := by
    rw [otsSignV, List.append_assoc, List.drop_append_of_le_length (by omega), List.drop_of_length_le (by omega), List.nil_append, List.take_append_of_le_length (by omega), List.take_of_length_le (by omega)]
  rw [otsCandV, otsPubV, e1]
  congr 2
  refine chainsV_congr _ _ _ _ _ _ _ _ fun i hi => ?_
  have e2 : ((otsSignV kind w p ls head seed msg).drop (36 + 32 * i)).take 32 = stepsV head i 0 ((digitsV w p ls (otsQV head (otsCV head seed) msg)).getD i 0) (startV head i seed) := by
    have hl : (beB kind 4 ++ otsCV head seed).length = 36 := by rw [List.length_append, h4, hc]
    rw [otsSignV, show 36 + 32 * i = (beB kind 4 ++ otsCV head seed).length + 32 * i by rw [hl], List.drop_length_add_append]
    have := chainsV_at head (fun _ => 0) (fun i => (digitsV w p ls (otsQV head (otsCV head seed) msg)).getD i 0) (fun i => startV head i seed) p i [] hi (fun j _ => startV_length _ _ _)
    rwa [List.append_nil] at this
  rw [e2]
  have hd : (digitsV w p ls (otsQV head (otsCV head seed) msg)).getD i 0 ≤ 2 ^ w - 1 := by
    have hp := Nat.two_pow_pos w
    cases hg : (digitsV w p ls (otsQV head (otsCV head seed) msg))[i]? with
    | none => rw [List.getD_eq_getElem?_getD, hg]; simp
    | some d =>
      have := digitsV_lt w p ls _ d (List.mem_of_getElem? hg)
      rw [List.getD_eq_getElem?_getD, hg]
      simp only [Option.getD_some]
      omega
  have := stepsV_add head i ((digitsV w p ls (otsQV head (otsCV head seed) msg)).getD i 0) (2 ^ w - 1 - (digitsV w p ls (otsQV head (otsCV head seed) msg)).getD i 0) 0 (startV head i seed)
  rw [Nat.zero_add] at this
  rw [← this]
  congr 1
  omega
end Go.Proofs.Ytcfbmbhkdicpfaa
