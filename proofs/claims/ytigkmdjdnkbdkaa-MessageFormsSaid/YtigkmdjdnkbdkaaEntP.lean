/- Chapter 19: entries as bytes: the plain law. -/
import Derived.Test.YtigkmdjdnkbdkaaWire
import Derived.Test.YtigkmdjdnkbdkaaVec0
namespace Go.Proofs.Ytigkmdjdnkbdkaa
open Go.RowKit

/-- An entry. -/
structure EntP where
  user : Int
  seq : Int
  vec : List Int
  root : List UInt8
  tabs : List (List UInt8)
  sign : List UInt8
def EntP0 : EntP := ⟨0, 0, [], List.replicate 32 0, [], []⟩
/-- Hashes have 32 bytes. -/
def EntP.fit (e : EntP) : Prop := e.root.length = 32 ∧ ∀ t ∈ e.tabs, t.length = 32
/-- May its body be? -/
def mayE (e : EntP) : Bool := decide (0 ≤ e.user) && decide (e.user < 16) && decide (1 ≤ e.seq) && decide (e.seq ≤ 256) && mayB e.vec && (decide (1 ≤ e.tabs.length) && decide (e.tabs.length ≤ 24))
def vecB (l : List Int) : List UInt8 := l.flatMap fun x => beB x.toNat 2
def bodyV (e : EntP) : List UInt8 := [65, 69] ++ (beB e.user.toNat 1 ++ (beB e.seq.toNat 2 ++ (beB e.vec.length 1 ++ (vecB e.vec ++ (e.root ++ (beB e.tabs.length 1 ++ e.tabs.flatten))))))
def ebodyV (e : EntP) : List UInt8 × Int := if mayE e = true then (bodyV e, 0) else ([], 1900)
def eputV (e : EntP) : List UInt8 × Int := if mayE e = true ∧ e.sign.length ≤ 8192 then (bodyV e ++ (beB e.sign.length 2 ++ e.sign), 0) else ([], 1900)
theorem mayE_parts {e : EntP} (h : mayE e = true) : ∃ u q : Nat, e.user = (u : Int) ∧ u < 16 ∧ e.seq = (q : Int) ∧ 1 ≤ q ∧ q ≤ 256 ∧ mayB e.vec = true ∧ 1 ≤ e.tabs.length ∧ e.tabs.length ≤ 24 := by
  simp only [mayE, Bool.and_eq_true, decide_eq_true_eq] at h
  obtain ⟨⟨⟨⟨⟨h1, h2⟩, h3⟩, h4⟩, h5⟩, h6, h7⟩ := h
  exact ⟨e.user.toNat, e.seq.toNat, by omega, by omega, by omega, by omega, by omega, h5, h6, h7⟩
theorem mayB_parts {l : List Int} (h : mayB l = true) : (∀ x ∈ l, 0 ≤ x ∧ x ≤ 256) ∧ 1 ≤ l.length ∧ l.length ≤ 16 := by
  simp only [mayB, Bool.and_eq_true, List.all_eq_true, inB, decide_eq_true_eq] at h
  exact ⟨h.1, h.2.1, h.2.2⟩
/-- So many numbers of two bytes; so many hashes. -/
def ints2 : List UInt8 → Nat → List Int
  | _, 0 => []
  | s, k + 1 => (numB (s.take 2) : Int) :: ints2 (s.drop 2) k
def hashs32 : List UInt8 → Nat → List (List UInt8)
  | _, 0 => []
  | s, k + 1 => s.take 32 :: hashs32 (s.drop 32) k
theorem ints2_length (s : List UInt8) (k : Nat) : (ints2 s k).length = k := by
  induction k generalizing s with
  | zero => rfl
  | succ k ih => simp [ints2, ih]
theorem hashs32_length (s : List UInt8) (k : Nat) : (hashs32 s k).length = k := by
  induction k generalizing s with
  | zero => rfl
  | succ k ih => simp [hashs32, ih]
theorem hashs32_fit : ∀ (k : Nat) (s : List UInt8), 32 * k ≤ s.length → ∀ t ∈ hashs32 s k, t.length = 32
  | 0, _, _, t, h => by simp [hashs32] at h
  | k + 1, s, hs, t, h => by
    simp only [hashs32, List.mem_cons] at h
    rcases h with rfl | h
    · rw [List.length_take]; omega
    · exact hashs32_fit k _ (by rw [List.length_drop]; omega) t h
theorem vecB_length (l : List Int) : (vecB l).length = 2 * l.length := by
  induction l with
  | nil => rfl
  | cons x t ih =>
    simp only [vecB, List.flatMap_cons, List.length_append, beB_length, List.length_cons]
    have : (t.flatMap fun x => beB x.toNat 2).length = 2 * t.length := ih
    omega
theorem flat_length : ∀ {l : List (List UInt8)}, (∀ t ∈ l, t.length = 32) → l.flatten.length = 32 * l.length
  | [], _ => rfl
  | x :: t, h => by
    have h1 := h x (by simp)
    have h2 := flat_length (l := t) fun y hy => h y (by simp [hy])
    simp only [List.flatten_cons, List.length_append, List.length_cons, h1, h2]
    omega
theorem numB_one (x : Nat) (h : x < 256) : numB (beB x 1) = x := by
  simp [beB, numB]; omega
theorem numB_two (x : Nat) (h : x < 65536) : numB (beB x 2) = x := by
  simp [beB, numB, Nat.shiftRight_eq_div_pow]; omega
theorem ints2_vecB : ∀ (l : List Int) (t : List UInt8), (∀ x ∈ l, 0 ≤ x ∧ x ≤ 256) → ints2 (vecB l ++ t) l.length = l
  | [], _, _ => rfl
  | x :: l, t, h => by
    obtain ⟨h0, h1⟩ := h x (by simp)
    have hb : (beB x.toNat 2).length = 2 := beB_length _ _
    have e : vecB (x :: l) ++ t = beB x.toNat 2 ++ (vecB l ++ t) := by simp [vecB]
    rw [e, List.length_cons, ints2, List.take_append_of_le_length (by omega), List.take_of_length_le (by omega), List.drop_append_of_le_length (by omega), List.drop_of_length_le (by omega), List.nil_append, ints2_vecB l t fun y hy => h y (by simp [hy]), numB_two _ (by omega)]
    congr 1
    omega
theorem hashs32_flat : ∀ (l : List (List UInt8)) (t : List UInt8), (∀ x ∈ l, x.length = 32) → hashs32 (l.flatten ++ t) l.length = l
  | [], _, _ => rfl
  | x :: l, t, h => by
    have h0 := h x (by simp)
    rw [List.flatten_cons, List.append_assoc, List.length_cons, hashs32, List.take_append_of_le_length (by omega), List.take_of_length_le (by omega), List.drop_append_of_le_length (by omega), List.drop_of_length_le (by omega), List.nil_append, hashs32_flat l t fun y hy => h y (by simp [hy])]
/-- An entry read from bytes. -/
def eparse (s : List UInt8) : Option EntP :=
  if 6 ≤ s.length ∧ s.take 2 = [65, 69] then
    if 2 * numB ((s.drop 5).take 1) + 33 ≤ (s.drop 6).length then
      if 32 * numB ((((s.drop 6).drop (2 * numB ((s.drop 5).take 1))).drop 32).take 1) + 2 ≤ (((s.drop 6).drop (2 * numB ((s.drop 5).take 1))).drop 33).length then
        if numB (((((s.drop 6).drop (2 * numB ((s.drop 5).take 1))).drop 33).drop (32 * numB ((((s.drop 6).drop (2 * numB ((s.drop 5).take 1))).drop 32).take 1))).take 2) + 2 = ((((s.drop 6).drop (2 * numB ((s.drop 5).take 1))).drop 33).drop (32 * numB ((((s.drop 6).drop (2 * numB ((s.drop 5).take 1))).drop 32).take 1))).length then
          some ⟨numB ((s.drop 2).take 1), numB ((s.drop 3).take 2), ints2 (s.drop 6) (numB ((s.drop 5).take 1)), ((s.drop 6).drop (2 * numB ((s.drop 5).take 1))).take 32, hashs32 (((s.drop 6).drop (2 * numB ((s.drop 5).take 1))).drop 33) (numB ((((s.drop 6).drop (2 * numB ((s.drop 5).take 1))).drop 32).take 1)),
            ((((s.drop 6).drop (2 * numB ((s.drop 5).take 1))).drop 33).drop (32 * numB ((((s.drop 6).drop (2 * numB ((s.drop 5).take 1))).drop 32).take 1))).drop 2⟩
        else none
      else none
    else none
  else none
theorem be_one {l : List UInt8} (h : l.length = 1) : beB (numB l) 1 = l := by
  match l, h with
  | [a], _ =>
    have := a.toNat_lt
    simp [numB, beB]
theorem be_two {l : List UInt8} (h : l.length = 2) : beB (numB l) 2 = l := by
  match l, h with
  | [a, b], _ =>
    have ha := a.toNat_lt
    have hb := b.toNat_lt
    simp only [numB, List.foldl_cons, List.foldl_nil, beB, Nat.shiftRight_eq_div_pow]
    refine congr (congrArg List.cons ?_) (congrArg (fun x => [x]) ?_)
    · apply UInt8.toNat_inj.1
      simp
      omega
    · apply UInt8.toNat_inj.1
      simp
theorem vecB_ints2 : ∀ (k : Nat) (s : List UInt8), 2 * k ≤ s.length → vecB (ints2 s k) = s.take (2 * k)
  | 0, s, _ => by simp [ints2, vecB]
  | k + 1, s, h => by
    have e : vecB (ints2 s (k + 1)) = beB (numB (s.take 2)) 2 ++ vecB (ints2 (s.drop 2) k) := by simp [ints2, vecB]
    rw [e, be_two (by rw [List.length_take]; omega), vecB_ints2 k _ (by rw [List.length_drop]; omega), show 2 * (k + 1) = 2 + 2 * k by omega, List.take_add]
theorem flat_hashs32 : ∀ (k : Nat) (s : List UInt8), 32 * k ≤ s.length → (hashs32 s k).flatten = s.take (32 * k)
  | 0, s, _ => by simp [hashs32]
  | k + 1, s, h => by
    rw [hashs32, List.flatten_cons, flat_hashs32 k _ (by rw [List.length_drop]; omega), show 32 * (k + 1) = 32 + 32 * k by omega, List.take_add]
theorem take_drop_split (s : List UInt8) (i n : Nat) : (s.drop i).take n ++ s.drop (i + n) = s.drop i := by
  rw [← List.drop_drop]; exact List.take_append_drop _ _
theorem eparse_put {s : List UInt8} {e : EntP} (h : eparse s = some e) : bodyV e ++ (beB e.sign.length 2 ++ e.sign) = s ∧ e.fit := by
  unfold eparse at h
  split at h
  case isFalse => cases h
  rename_i h6
  split at h
  case isFalse => cases h
  rename_i h7
  split at h
  case isFalse => cases h
  rename_i h8
  split at h
  case isFalse => cases h
  rename_i h9
  obtain ⟨h6, hm⟩ := h6
  injection h with h
  subst h
  obtain ⟨r, hr⟩ : ∃ r, r = s.drop 6 := ⟨_, rfl⟩
  have es : s = [65, 69] ++ ((s.drop 2).take 1 ++ ((s.drop 3).take 2 ++ ((s.drop 5).take 1 ++ r))) := by
    rw [hr, take_drop_split s 5 1, take_drop_split s 3 2, take_drop_split s 2 1, ← hm, List.take_append_drop]
  have b1 : beB (numB ((s.drop 2).take 1)) 1 = (s.drop 2).take 1 := be_one (by rw [List.length_take, List.length_drop]; omega)
  have b2 : beB (numB ((s.drop 3).take 2)) 2 = (s.drop 3).take 2 := be_two (by rw [List.length_take, List.length_drop]; omega)
  have b3 : beB (numB ((s.drop 5).take 1)) 1 = (s.drop 5).take 1 := be_one (by rw [List.length_take, List.length_drop]; omega)
  rw [← hr] at h7 h8 h9 ⊢
  generalize (s.drop 2).take 1 = A at *
  generalize (s.drop 3).take 2 = B at *
  generalize (s.drop 5).take 1 = C at *
  obtain ⟨k, hk⟩ : ∃ k, k = numB C := ⟨_, rfl⟩
  rw [← hk] at h7 h8 h9 b3 ⊢
  obtain ⟨r2, hr2⟩ : ∃ r2, r2 = r.drop (2 * k) := ⟨_, rfl⟩
  rw [← hr2] at h8 h9 ⊢
  have l2 : r2.length = r.length - 2 * k := by rw [hr2, List.length_drop]
  have er : r = r.take (2 * k) ++ r2 := by rw [hr2, List.take_append_drop]
  have er2 : r2 = r2.take 32 ++ ((r2.drop 32).take 1 ++ r2.drop 33) := by rw [take_drop_split r2 32 1, List.take_append_drop]
  have b4 : beB (numB ((r2.drop 32).take 1)) 1 = (r2.drop 32).take 1 := be_one (by rw [List.length_take, List.length_drop]; omega)
  generalize (r2.drop 32).take 1 = D at *
  obtain ⟨r3, hr3⟩ : ∃ r3, r3 = r2.drop 33 := ⟨_, rfl⟩
  rw [← hr3] at h8 h9 er2 ⊢
  obtain ⟨m, hmm⟩ : ∃ m, m = numB D := ⟨_, rfl⟩
  rw [← hmm] at h8 h9 b4 ⊢
  obtain ⟨r4, hr4⟩ : ∃ r4, r4 = r3.drop (32 * m) := ⟨_, rfl⟩
  rw [← hr4] at h9 ⊢
  have l4 : r4.length = r3.length - 32 * m := by rw [hr4, List.length_drop]
  have er3 : r3 = r3.take (32 * m) ++ r4 := by rw [hr4, List.take_append_drop]
  have b5 : beB (numB (r4.take 2)) 2 = r4.take 2 := be_two (by rw [List.length_take]; omega)
  have hz : (r4.drop 2).length = numB (r4.take 2) := by rw [List.length_drop]; omega
  constructor
  · show ([65, 69] ++ (beB ((numB A : Nat) : Int).toNat 1 ++ (beB ((numB B : Nat) : Int).toNat 2 ++ (beB (ints2 r k).length 1 ++ (vecB (ints2 r k) ++ (r2.take 32 ++ (beB (hashs32 r3 m).length 1 ++ (hashs32 r3 m).flatten))))))) ++ (beB (r4.drop 2).length 2 ++ r4.drop 2) = s
    rw [Int.toNat_natCast, Int.toNat_natCast, b1, b2, ints2_length, b3, vecB_ints2 k r (by omega), hashs32_length, b4, flat_hashs32 m r3 (by omega), hz, b5, List.take_append_drop]
    conv => rhs; rw [es, er, er2, er3]
    simp only [List.append_assoc]
  · exact ⟨by show (r2.take 32).length = 32; rw [List.length_take]; omega, hashs32_fit m r3 (by omega)⟩
/-- What was put is read. -/
theorem eparse_of {e : EntP} (h : mayE e = true) (hf : e.fit) (hs : e.sign.length ≤ 65535) : eparse (bodyV e ++ (beB e.sign.length 2 ++ e.sign)) = some e := by
  obtain ⟨u, q, hu, hu2, hq, hq1, hq2, hv, ht1, ht2⟩ := mayE_parts h
  obtain ⟨hv1, hv2, hv3⟩ := mayB_parts hv
  obtain ⟨hf1, hf2⟩ := hf
  obtain ⟨user, seq, vec, root, tabs, sign⟩ := e
  simp only at hu hq hv1 hv2 hv3 hf1 hf2 ht1 ht2 hs
  subst hu
  subst hq
  have es : bodyV ⟨(u : Int), (q : Int), vec, root, tabs, sign⟩ ++ (beB sign.length 2 ++ sign) = [65, 69] ++ (beB u 1 ++ (beB q 2 ++ (beB vec.length 1 ++ (vecB vec ++ (root ++ (beB tabs.length 1 ++ (tabs.flatten ++ (beB sign.length 2 ++ sign)))))))) := by
    simp only [bodyV, Int.toNat_natCast, List.append_assoc]
  show eparse (bodyV ⟨(u : Int), (q : Int), vec, root, tabs, sign⟩ ++ (beB sign.length 2 ++ sign)) = _
  rw [es]
  clear es
  have n1 := numB_one u (by omega)
  have n2 := numB_two q (by omega)
  have n3 := numB_one vec.length (by omega)
  have n4 := numB_one tabs.length (by omega)
  have n5 := numB_two sign.length (by omega)
  have k1 := beB_length u 1
  have k2 := beB_length q 2
  have k3 := beB_length vec.length 1
  have k4 := beB_length tabs.length 1
  have k5 := beB_length sign.length 2
  have kv := vecB_length vec
  have kt := flat_length hf2
  have iv := fun t => ints2_vecB vec t hv1
  have it := fun t => hashs32_flat tabs t hf2
  generalize beB u 1 = A at *
  generalize beB q 2 = B at *
  generalize beB vec.length 1 = C at *
  generalize beB tabs.length 1 = D at *
  generalize beB sign.length 2 = Z at *
  generalize vecB vec = V at *
  generalize tabs.flatten = F at *
  obtain ⟨R4, hR4⟩ : ∃ R4, R4 = Z ++ sign := ⟨_, rfl⟩
  obtain ⟨R3, hR3⟩ : ∃ R3, R3 = F ++ R4 := ⟨_, rfl⟩
  obtain ⟨R2, hR2⟩ : ∃ R2, R2 = root ++ (D ++ R3) := ⟨_, rfl⟩
  obtain ⟨R, hR⟩ : ∃ R, R = V ++ R2 := ⟨_, rfl⟩
  rw [← hR4, ← hR3, ← hR2, ← hR]
  have cut : ∀ (a b : List UInt8) (n : Nat), a.length = n → (a ++ b).take n = a ∧ (a ++ b).drop n = b := fun a b n h => by
    subst h
    exact ⟨List.take_left, List.drop_left⟩
  have d2 : ([65, 69] ++ (A ++ (B ++ (C ++ R)))).drop 2 = A ++ (B ++ (C ++ R)) := (cut [65, 69] _ 2 rfl).2
  have d3 : ([65, 69] ++ (A ++ (B ++ (C ++ R)))).drop 3 = B ++ (C ++ R) := by
    rw [show 3 = 2 + 1 from rfl, ← List.drop_drop, d2, (cut A _ 1 k1).2]
  have d5 : ([65, 69] ++ (A ++ (B ++ (C ++ R)))).drop 5 = C ++ R := by
    rw [show 5 = 3 + 2 from rfl, ← List.drop_drop, d3, (cut B _ 2 k2).2]
  have d6 : ([65, 69] ++ (A ++ (B ++ (C ++ R)))).drop 6 = R := by
    rw [show 6 = 5 + 1 from rfl, ← List.drop_drop, d5, (cut C _ 1 k3).2]
  have t2 : ([65, 69] ++ (A ++ (B ++ (C ++ R)))).take 2 = [65, 69] := (cut [65, 69] _ 2 rfl).1
  have hl : 6 ≤ ([65, 69] ++ (A ++ (B ++ (C ++ R)))).length := by simp only [List.length_append, k1, k2, k3]; simp; omega
  have e1 : R.drop (2 * vec.length) = R2 := by rw [hR]; exact (cut V _ _ kv).2
  have lR : R.length = 2 * vec.length + R2.length := by rw [hR, List.length_append, kv]
  have lR2 : R2.length = 33 + R3.length := by rw [hR2, List.length_append, List.length_append, hf1, k4]; omega
  have lR3 : R3.length = 32 * tabs.length + R4.length := by rw [hR3, List.length_append, kt]
  have lR4 : R4.length = 2 + sign.length := by rw [hR4, List.length_append, k5]
  have e2 : R2.take 32 = root := by rw [hR2]; exact (cut root _ _ hf1).1
  have e3 : R2.drop 32 = D ++ R3 := by rw [hR2]; exact (cut root _ _ hf1).2
  have e4 : R2.drop 33 = R3 := by rw [show 33 = 32 + 1 from rfl, ← List.drop_drop, e3]; exact (cut D _ 1 k4).2
  have e5 : R3.drop (32 * tabs.length) = R4 := by rw [hR3]; exact (cut F _ _ kt).2
  have e6 : R4.take 2 = Z := by rw [hR4]; exact (cut Z _ 2 k5).1
  have e7 : R4.drop 2 = sign := by rw [hR4]; exact (cut Z _ 2 k5).2
  unfold eparse
  rw [if_pos ⟨hl, t2⟩, d2, d3, d5, d6, (cut A _ 1 k1).1, (cut B _ 2 k2).1, (cut C _ 1 k3).1, n1, n2, n3, e1, e2, e3, e4, (cut D _ 1 k4).1, n4, e5, e6, e7, n5, if_pos (by omega), if_pos (by omega), if_pos (by omega)]
  rw [hR, iv, hR3, it]
/-- What Get answers. -/
def egetV (s : List UInt8) : EntP × Int :=
  match eparse s with
  | some e => if (eputV e).2 = 0 then (e, 0) else (EntP0, 1900)
  | none => (EntP0, 1900)
/-- An entry that was read somehow, and is put again: the bytes come back just where they are an entry's. -/
theorem egetV_again {s : List UInt8} {e : EntP} (hf : e.fit) (hl : ∀ e', eparse s = some e' → e = e') : egetV s = if eputV e = (s, 0) then (e, 0) else (EntP0, 1900) := by
  by_cases hp : eputV e = (s, 0)
  · rw [if_pos hp]
    have h0 := hp
    unfold eputV at hp
    split at hp
    case isFalse => simp at hp
    rename_i hm
    have hs : bodyV e ++ (beB e.sign.length 2 ++ e.sign) = s := (Prod.mk.inj hp).1
    have := eparse_of hm.1 hf (by omega)
    rw [hs] at this
    rw [egetV, this]
    simp only [h0, if_true]
  · rw [if_neg hp, egetV]
    cases hq : eparse s with
    | none => rfl
    | some e' =>
      obtain rfl := hl e' hq
      simp only
      rw [if_neg]
      intro h
      refine hp ?_
      obtain ⟨hb, _⟩ := eparse_put hq
      unfold eputV at h ⊢
      split
      · rw [hb]
      · rename_i hn; rw [if_neg hn] at h; simp at h
end Go.Proofs.Ytigkmdjdnkbdkaa
