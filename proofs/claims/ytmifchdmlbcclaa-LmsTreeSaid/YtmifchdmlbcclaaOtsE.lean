/- Chapter 4, the reference: a message's digits. -/
import Derived.Test.YtmifchdmlbcclaaOtsR
import Derived.Test.YtmifchdmlbcclaaOtsD
import Derived.Deep.AppendLies
namespace Go.Proofs.Ytmifchdmlbcclaa
open Go.RowKit

/-- Numbers in a row. -/
def intsN (l : List Nat) : List Value := l.map fun (d : Nat) => Value.int .i64 (d : Int)
theorem intsN_length (l : List Nat) : (intsN l).length = l.length := by simp [intsN]
theorem intsN_app (a b : List Nat) : intsN (a ++ b) = intsN a ++ intsN b := by simp [intsN]
theorem infoI : (Try.prog.info? 3).map (fun i => (i.zero, i.size, i.bytes)) = some (some (.int .i64 0), 1, 8) := by kernel_rfl
theorem partsI : ∃ i, Hid (Try.prog.info? 3 = some i) ∧ i.zero = some (.int .i64 0) ∧ i.size = 1 ∧ i.bytes = 8 ∧ (Value.int .i64 0).cells.size = 1 := by
  have h := infoI
  cases hi : Try.prog.info? 3 with
  | none => rw [hi] at h; simp at h
  | some i =>
    rw [hi] at h
    simp only [Option.map_some, Option.some.injEq, Prod.mk.injEq] at h
    exact ⟨i, Lib.hid rfl, h.1, h.2.1, h.2.2, by simp [Value.cells]⟩
/-- A row of one number. -/
theorem wpList_buildInt {ops : Array Oper} {rest : List Oper} {o : Oper} {a : Act} {w : World} {Q : Exit → Act → World → Prop} (hg : o.guard = none) (x : Operand) (ho : o.op = .buildSlice 77 1 #[(0, x)]) (d : Nat) (hx : a.eval x = .int .i64 (d : Int))
    (h : ∀ g w', g = w.heap.size → w'.heap[g]? = some (.cells (intsN [d]).toArray 3 (0, 0)) → Pure w w' → wpList Try.prog ops Q rest (a.put o.dst (.slice (some ⟨g, 0, none⟩) 1 1)) w') : wpList Try.prog ops Q (o :: rest) a w := by
  obtain ⟨i, hi, h1, h2, h3, _⟩ := partsI
  refine wpList_buildSlice hg 77 3 1 #[(0, x)] ho (intsN [d]).toArray i _ Try.underlying77 hi.out h1 (by rw [h2]; omega) (by rw [h2]; omega) ?_ (h _ _ rfl (heap_alloc_new _ _) ((Turn.refl _ _).alloc _))
  rw [h2]
  simp [Instr.fill, hx, Value.cells, intsN, show Array.range 1 = #[0] from rfl]
/-- A number behind a row of numbers. -/
theorem wpList_appendInt {w : World} {ops : Array Oper} {rest : List Oper} {o : Oper} {a : Act} {Q : Exit → Act → World → Prop} (hgd : o.guard = none) (sl x : Operand)
    (ho : o.op = .call { callee := .builtin .append, args := #[sl, x], argTypes := #[77, 77] }) (N : Nat) (v : Value) (n : Nat) (l : List Nat) (hv : a.eval sl = v) (hown : w.ownsRow 0 3 1 v n (intsN l)) (hlow : ∀ q, v.ownBlock = some q → N ≤ q) (hN : N ≤ w.heap.size)
    (g : Nat) (d : Nat) (hx : a.eval x = .slice (some ⟨g, 0, none⟩) 1 1) (hg : w.heap[g]? = some (.cells (intsN [d]).toArray 3 (0, 0))) (hn : n ≤ 1000)
    (h : ∀ ao c w', w'.ownsRow 0 3 1 (.slice ao (n + 1) c) (n + 1) (intsN (l ++ [d])) → (∀ q, (Value.slice ao (n + 1) c).ownBlock = some q → N ≤ q) → Turn (fun k => N ≤ k) w w' → wpList Try.prog ops Q rest (a.put o.dst (.slice ao (n + 1) c)) w') : wpList Try.prog ops Q (o :: rest) a w := by
  obtain ⟨i, hi, h1, h2, h3, h4⟩ := partsI
  refine wpList_append_turn w hgd sl x 77 77 3 ho i _ 1 8 Try.underlying77 hi.out h1 h2 h3 h4 v n (intsN l) hv hown _ hx 1 (intsN [d]) (Src.ofSlice _ Try.underlying77 _ _ _ _ rfl (World.news_of_block hg) (by simp [intsN, Value.oneCell'])) (by omega) (by omega) ?_
  intro ao c w' ho' ht hb
  rw [← intsN_app] at ho'
  refine h ao c w' ho' (fun q hq => ?_) (ht.mono fun q _ hq => hlow q hq)
  rcases hb.out with e | e
  · exact hlow q (e ▸ hq)
  · have := Option.some.inj (e.symm.trans hq); omega
theorem sumV_step (wd : Nat) (q : List UInt8) (k : Nat) : ((sumV wd q (k + 1) : Nat) : Int) = (sumV wd q k : Int) + 2 ^ wd - 1 - (digV wd q k : Int) := by
  have h1 := digV_lt wd q k
  have h2 := Nat.two_pow_pos wd
  have h3 : ((2 ^ wd : Nat) : Int) = (2 : Int) ^ wd := by rw [Int.natCast_pow]; rfl
  simp only [sumV]
  rw [← h3]
  omega

set_option maxHeartbeats 4000000 in
theorem rdigits_3 (w : World) (head c msg : List UInt8) (hh : head.length ≤ 1000) (hc : c.length = 32) (hm : msg.length ≤ 65536) :
    Calls Try.prog 46 #[.int .i64 3, .string (bstr head), .string (bstr c), .string (bstr msg)] w fun e w' => ∃ r, e = .returned r ∧ w'.ownsRow 0 3 1 r 67 (intsN (digitsV 4 67 4 (otsQV head c msg))) ∧ Pure w w' := by
  obtain ⟨A, hA⟩ : ∃ A, A = head ++ [129, 129] := ⟨_, rfl⟩
  obtain ⟨B, hB⟩ : ∃ B, B = A ++ c := ⟨_, rfl⟩
  obtain ⟨C, hC⟩ : ∃ C, C = B ++ msg := ⟨_, rfl⟩
  have hAl : A.length = head.length + 2 := by rw [hA, List.length_append]; rfl
  have hBl : B.length = head.length + 2 + 32 := by rw [hB, List.length_append, hAl, hc]
  have hCl : C.length = head.length + 2 + 32 + msg.length := by rw [hC, List.length_append, hBl]
  have a1 : bstr head ++ (⟨#[129, 129]⟩ : ByteArray) = bstr A := by rw [hA]; exact bstr_app head [129, 129]
  have a2 : bstr A ++ bstr c = bstr B := by rw [hB]; exact bstr_app _ _
  have a3 : bstr B ++ bstr msg = bstr C := by rw [hC]; exact bstr_app _ _
  have hq : otsQV head c msg = shaV C := by rw [otsQV, hC, hB, hA]; simp [show beB 33153 2 = [129, 129] from rfl]
  rw [hq]
  have z1 := bstr_size head
  have z3 : (bstr A).size = head.length + 2 := by rw [bstr_size, hAl]
  have z4 : (bstr B).size = head.length + 2 + 32 := by rw [bstr_size, hBl]
  have z5 : (bstr c).size = 32 := by rw [bstr_size, hc]
  have z6 := bstr_size msg
  have n1 : ¬ (9223372036854775807 < head.length + 2) := by omega
  have n2 : ¬ (9223372036854775807 < head.length + 2 + 32) := by omega
  have n3 : ¬ (9223372036854775807 < head.length + 2 + 32 + msg.length) := by omega
  have HH := Lib.hid (fun W => H_any W C (by omega))
  have hql : (shaV C).length = 32 := shaV_length _
  generalize shaV C = q at hql HH ⊢
  have HDG := Lib.hid (fun W (i : Nat) (hi : i < 64) => digit_any W q i 4 (by omega) (by rw [hql]; omega) (by omega))
  have hT : (beB (sumV 4 q 64 * 2 ^ 4) 2).length = 2 := beB_length _ _
  have hsum := sumV_le 4 q 64
  obtain ⟨T, hTd⟩ : ∃ T, T = beB (sumV 4 q 64 * 2 ^ 4) 2 := ⟨_, rfl⟩
  rw [← hTd] at hT
  have HDT := Lib.hid (fun W (i : Nat) (hi : i < 3) => digit_any W T i 4 (by omega) (by rw [hT]; omega) (by omega))
  have HTD := Lib.hid hTd
  have HDV : Hid (digitsV 4 67 4 q = (List.range 64).map (digV 4 q) ++ (List.range 3).map (digV 4 T)) := Lib.hid (by rw [digitsV, hTd])
  clear hA hB hC hAl hBl hCl hq hTd
  have PR := Lib.hid (Params_any w 3)
  go_enter Try.func46, Try.ntmps46
  go_wp2_with fail
  refine PR.out.mono ?_
  rintro e w0 ⟨rfl, e0⟩
  rw [e0]
  clear e0
  rw [show parV 3 = (4, 67, 4) from rfl]
  go_wp2_with fail
  refine (HH.out _).mono ?_
  rintro e w1 ⟨rfl, t1⟩
  have P1 := Lib.hid t1
  clear t1 PR HH
  go_wp2
  go_loopw [13, 14, 15, 16] (fun out sm i dd wr => ∃ (k : Nat) (ao : Option Addr) (cc : Nat), k ≤ 64 ∧ out = .slice ao k cc ∧ sm = .int .i64 ((sumV 4 q k : Nat) : Int) ∧ i = .int .i64 (k : Int) ∧ Hid (wr.ownsRow 0 3 1 (.slice ao k cc) k (intsN ((List.range k).map (digV 4 q)))) ∧ Hid (∀ x, (Value.slice ao k cc).ownBlock = some x → w.heap.size ≤ x) ∧ Hid (Pure w wr)) (fun _ _ i _ _ => 64 - (intOf i).toNat)
  case atStart => exact ⟨0, none, 0, by omega, rfl, rfl, rfl, Lib.hid (by simp only [List.range_zero, List.map_nil, intsN]; exact World.ownsRow_nil _ _ _ _), Lib.hid (fun x hx => by simp [Value.ownBlock] at hx), P1⟩
  case round =>
    obtain ⟨k, ao, cc, hk, rfl, rfl, rfl, HO, HLO, HP⟩ := hrel
    have hsl := sumV_le 4 q k
    have hd := digV_lt 4 q k
    by_cases hlt : k < 64
    · have hss := sumV_step 4 q k
      have hra : intsN ((List.range k).map (digV 4 q) ++ [digV 4 q k]) = intsN ((List.range (k + 1)).map (digV 4 q)) := by rw [List.range_succ, List.map_append]; rfl
      obtain ⟨s0, hs0⟩ : ∃ s0, s0 = sumV 4 q k := ⟨_, rfl⟩
      obtain ⟨s1, hs1⟩ : ∃ s1, s1 = sumV 4 q (k + 1) := ⟨_, rfl⟩
      have HDK := Lib.hid (HDG.out)
      obtain ⟨dk, hdk⟩ : ∃ dk, dk = digV 4 q k := ⟨_, rfl⟩
      have hcall := fun W => HDG.out W k hlt
      rw [← hdk] at hcall hss hd hra
      rw [← hs0, ← hs1] at hss
      rw [← hs0] at hsl ⊢
      have HC := Lib.hid hcall; have HRA := Lib.hid hra; have HS1 := Lib.hid (And.intro hs1 hss)
      have q1 : (k : Int) < 64 := by omega
      have b1 : s0 ≤ 100000 := by omega
      have b2 : dk < 256 := by omega
      have b3 : s0 + 15 - dk = s1 ∧ dk ≤ 15 := by omega
      have i1 : IntKind.i64.wrap ((k : Int) + 1) = ((k + 1 : Nat) : Int) := by rw [IntWalk.i64_in _ (by omega)]; omega
      have i2 : IntKind.i64.wrap ((s0 : Int) + 16) = ((s0 + 16 : Nat) : Int) := by rw [IntWalk.i64_in _ (by omega)]; omega
      have i3 : IntKind.i64.wrap (((s0 + 16 : Nat) : Int) - 1) = ((s0 + 15 : Nat) : Int) := by rw [IntWalk.i64_in _ (by omega)]; omega
      have i4 : IntKind.i64.wrap (((s0 + 15 : Nat) : Int) - dk) = (s1 : Int) := by rw [IntWalk.i64_in _ (by omega)]; omega
      clear hcall hra hss hs0 hs1 hdk b3 HDK
      go_wp2_with fail
      refine (HC.out _).mono ?_
      rintro e w2 ⟨rfl, t2⟩
      have HO2 := Lib.hid (t2.own HO.out (fun _ _ e => e)); have HP2 := Lib.hid (HP.out.pure t2)
      clear t2 HO HP
      go_wp2_with (refine wpList_buildInt rfl _ rfl dk rfl ?_)
      intro g w3 e3 c3 t3
      have lg : w.heap.size ≤ g := by have := HP2.out.size; omega
      clear e3
      have HO3 := Lib.hid (t3.own HO2.out (fun _ _ e => e)); have HP3 := Lib.hid (HP2.out.pure t3)
      clear t3 HO2 HP2
      go_wp2_with (at_builtin; refine wpList_appendInt rfl _ _ rfl w.heap.size _ k _ rfl HO3.out HLO.out HP3.out.size g dk rfl c3 (by omega) ?_)
      intro ao4 c4 w4 ho4 hl4 t4
      rw [HRA.out] at ho4
      have HP4 := Lib.hid (HP3.out.trans t4 fun x hx e => by omega : Pure w w4)
      have HO4 := Lib.hid ho4; have HL4 := Lib.hid hl4
      clear t4 ho4 hl4 c3 HO3 HP3
      go_wp2
      exact ⟨⟨k + 1, ao4, c4, by omega, rfl, congrArg (Value.int .i64) (by have h := HS1.out.2; rw [HS1.out.1] at h; omega), by first | rfl | trivial, HO4, HL4, HP4⟩, by simp [intOf]; omega⟩
    · obtain rfl : k = 64 := by omega
      obtain ⟨L1, hL1⟩ : ∃ L1, L1 = (List.range 64).map (digV 4 q) := ⟨_, rfl⟩
      rw [← hL1] at HO HDV
      clear hL1
      obtain ⟨s0, hs0⟩ : ∃ s0, s0 = sumV 4 q 64 := ⟨_, rfl⟩
      rw [← hs0] at hsl ⊢
      have hsb : s0 ≤ 100000 := by omega
      have hbe := fun W => Be_anyS (s0 * 16) 2 W (by omega) (by omega)
      have hTT : beB (s0 * 16) 2 = T := by rw [hs0]; exact HTD.out.symm
      rw [hTT] at hbe
      have HBE := Lib.hid hbe
      have i5 : IntKind.i64.wrap ((s0 : Int) * 16) = ((s0 * 16 : Nat) : Int) := by rw [IntWalk.i64_in _ (by omega)]; omega
      have i6 : IntKind.i64.wrap (s0 : Int) = (s0 : Int) := IntWalk.i64_in _ (by omega)
      clear hbe hTT hs0 hsl hd hsum HTD
      go_wp2_with fail
      refine (HBE.out _).mono ?_
      rintro e w2 ⟨rfl, t2⟩
      have HO2 := Lib.hid (t2.own HO.out (fun _ _ e => e)); have HP2 := Lib.hid (HP.out.pure t2)
      clear t2 HO HP HBE
      go_wp2
      go_loopw [13, 18] (fun out i wr => ∃ (k : Nat) (ao : Option Addr) (cc : Nat), k ≤ 3 ∧ out = .slice ao (64 + k) cc ∧ i = .int .i64 (k : Int) ∧ Hid (wr.ownsRow 0 3 1 (.slice ao (64 + k) cc) (64 + k) (intsN (L1 ++ (List.range k).map (digV 4 T)))) ∧ Hid (∀ x, (Value.slice ao (64 + k) cc).ownBlock = some x → w.heap.size ≤ x) ∧ Hid (Pure w wr)) (fun _ i _ => 3 - (intOf i).toNat)
      case atStart => exact ⟨0, ao, cc, by omega, rfl, rfl, Lib.hid (by simpa using HO2.out), HLO, HP2⟩
      case round =>
        obtain ⟨k, ao, cc, hk, rfl, rfl, HO, HLO, HP⟩ := hrel
        by_cases hlt : k < 3
        · have hra : intsN (L1 ++ ((List.range k).map (digV 4 T) ++ [digV 4 T k])) = intsN (L1 ++ (List.range (k + 1)).map (digV 4 T)) := by rw [List.range_succ, List.map_append]; rfl
          have hcall := fun W => HDT.out W k hlt
          obtain ⟨dk, hdk⟩ : ∃ dk, dk = digV 4 T k := ⟨_, rfl⟩
          rw [← hdk] at hcall hra
          have HC := Lib.hid hcall; have HRA := Lib.hid hra
          have q1 : (((64 + k : Nat)) : Int) < 67 := by omega
          have q2 : 64 + k < 67 := by omega
          have i1 : IntKind.i64.wrap ((k : Int) + 1) = ((k + 1 : Nat) : Int) := by rw [IntWalk.i64_in _ (by omega)]; omega
          clear hcall hra hdk
          go_wp2_with fail
          refine (HC.out _).mono ?_
          rintro e w2 ⟨rfl, t2⟩
          have HO2 := Lib.hid (t2.own HO.out (fun _ _ e => e)); have HP2 := Lib.hid (HP.out.pure t2)
          clear t2 HO HP
          go_wp2_with (refine wpList_buildInt rfl _ rfl dk rfl ?_)
          intro g w3 e3 c3 t3
          have lg : w.heap.size ≤ g := by have := HP2.out.size; omega
          clear e3
          have HO3 := Lib.hid (t3.own HO2.out (fun _ _ e => e)); have HP3 := Lib.hid (HP2.out.pure t3)
          clear t3 HO2 HP2
          go_wp2_with (at_builtin; refine wpList_appendInt rfl _ _ rfl w.heap.size _ (64 + k) _ rfl HO3.out HLO.out HP3.out.size g dk rfl c3 (by omega) ?_)
          intro ao4 c4 w4 ho4 hl4 t4
          rw [HRA.out] at ho4
          have HP4 := Lib.hid (HP3.out.trans t4 fun x hx e => by omega : Pure w w4)
          have HO4 := Lib.hid ho4; have HL4 := Lib.hid hl4
          clear t4 ho4 hl4 c3 HO3 HP3
          go_wp2
          exact ⟨⟨k + 1, ao4, c4, by omega, rfl, by first | rfl | trivial, HO4, HL4, HP4⟩, by simp [intOf]; omega⟩
        · obtain rfl : k = 3 := by omega
          go_wp2
          go_ret
          exact ⟨_, rfl, by rw [HDV.out]; exact HO.out, HP.out⟩

set_option maxHeartbeats 4000000 in
theorem rdigits_4 (w : World) (head c msg : List UInt8) (hh : head.length ≤ 1000) (hc : c.length = 32) (hm : msg.length ≤ 65536) :
    Calls Try.prog 46 #[.int .i64 4, .string (bstr head), .string (bstr c), .string (bstr msg)] w fun e w' => ∃ r, e = .returned r ∧ w'.ownsRow 0 3 1 r 34 (intsN (digitsV 8 34 0 (otsQV head c msg))) ∧ Pure w w' := by
  obtain ⟨A, hA⟩ : ∃ A, A = head ++ [129, 129] := ⟨_, rfl⟩
  obtain ⟨B, hB⟩ : ∃ B, B = A ++ c := ⟨_, rfl⟩
  obtain ⟨C, hC⟩ : ∃ C, C = B ++ msg := ⟨_, rfl⟩
  have hAl : A.length = head.length + 2 := by rw [hA, List.length_append]; rfl
  have hBl : B.length = head.length + 2 + 32 := by rw [hB, List.length_append, hAl, hc]
  have hCl : C.length = head.length + 2 + 32 + msg.length := by rw [hC, List.length_append, hBl]
  have a1 : bstr head ++ (⟨#[129, 129]⟩ : ByteArray) = bstr A := by rw [hA]; exact bstr_app head [129, 129]
  have a2 : bstr A ++ bstr c = bstr B := by rw [hB]; exact bstr_app _ _
  have a3 : bstr B ++ bstr msg = bstr C := by rw [hC]; exact bstr_app _ _
  have hq : otsQV head c msg = shaV C := by rw [otsQV, hC, hB, hA]; simp [show beB 33153 2 = [129, 129] from rfl]
  rw [hq]
  have z1 := bstr_size head
  have z3 : (bstr A).size = head.length + 2 := by rw [bstr_size, hAl]
  have z4 : (bstr B).size = head.length + 2 + 32 := by rw [bstr_size, hBl]
  have z5 : (bstr c).size = 32 := by rw [bstr_size, hc]
  have z6 := bstr_size msg
  have n1 : ¬ (9223372036854775807 < head.length + 2) := by omega
  have n2 : ¬ (9223372036854775807 < head.length + 2 + 32) := by omega
  have n3 : ¬ (9223372036854775807 < head.length + 2 + 32 + msg.length) := by omega
  have HH := Lib.hid (fun W => H_any W C (by omega))
  have hql : (shaV C).length = 32 := shaV_length _
  generalize shaV C = q at hql HH ⊢
  have HDG := Lib.hid (fun W (i : Nat) (hi : i < 32) => digit_any W q i 8 (by omega) (by rw [hql]; omega) (by omega))
  have hT : (beB (sumV 8 q 32 * 2 ^ 0) 2).length = 2 := beB_length _ _
  have hsum := sumV_le 8 q 32
  obtain ⟨T, hTd⟩ : ∃ T, T = beB (sumV 8 q 32 * 2 ^ 0) 2 := ⟨_, rfl⟩
  rw [← hTd] at hT
  have HDT := Lib.hid (fun W (i : Nat) (hi : i < 2) => digit_any W T i 8 (by omega) (by rw [hT]; omega) (by omega))
  have HTD := Lib.hid hTd
  have HDV : Hid (digitsV 8 34 0 q = (List.range 32).map (digV 8 q) ++ (List.range 2).map (digV 8 T)) := Lib.hid (by rw [digitsV, hTd])
  clear hA hB hC hAl hBl hCl hq hTd
  have PR := Lib.hid (Params_any w 4)
  go_enter Try.func46, Try.ntmps46
  go_wp2_with fail
  refine PR.out.mono ?_
  rintro e w0 ⟨rfl, e0⟩
  rw [e0]
  clear e0
  rw [show parV 4 = (8, 34, 0) from rfl]
  go_wp2_with fail
  refine (HH.out _).mono ?_
  rintro e w1 ⟨rfl, t1⟩
  have P1 := Lib.hid t1
  clear t1 PR HH
  go_wp2
  go_loopw [13, 14, 15, 16] (fun out sm i dd wr => ∃ (k : Nat) (ao : Option Addr) (cc : Nat), k ≤ 32 ∧ out = .slice ao k cc ∧ sm = .int .i64 ((sumV 8 q k : Nat) : Int) ∧ i = .int .i64 (k : Int) ∧ Hid (wr.ownsRow 0 3 1 (.slice ao k cc) k (intsN ((List.range k).map (digV 8 q)))) ∧ Hid (∀ x, (Value.slice ao k cc).ownBlock = some x → w.heap.size ≤ x) ∧ Hid (Pure w wr)) (fun _ _ i _ _ => 32 - (intOf i).toNat)
  case atStart => exact ⟨0, none, 0, by omega, rfl, rfl, rfl, Lib.hid (by simp only [List.range_zero, List.map_nil, intsN]; exact World.ownsRow_nil _ _ _ _), Lib.hid (fun x hx => by simp [Value.ownBlock] at hx), P1⟩
  case round =>
    obtain ⟨k, ao, cc, hk, rfl, rfl, rfl, HO, HLO, HP⟩ := hrel
    have hsl := sumV_le 8 q k
    have hd := digV_lt 8 q k
    by_cases hlt : k < 32
    · have hss := sumV_step 8 q k
      have hra : intsN ((List.range k).map (digV 8 q) ++ [digV 8 q k]) = intsN ((List.range (k + 1)).map (digV 8 q)) := by rw [List.range_succ, List.map_append]; rfl
      obtain ⟨s0, hs0⟩ : ∃ s0, s0 = sumV 8 q k := ⟨_, rfl⟩
      obtain ⟨s1, hs1⟩ : ∃ s1, s1 = sumV 8 q (k + 1) := ⟨_, rfl⟩
      have HDK := Lib.hid (HDG.out)
      obtain ⟨dk, hdk⟩ : ∃ dk, dk = digV 8 q k := ⟨_, rfl⟩
      have hcall := fun W => HDG.out W k hlt
      rw [← hdk] at hcall hss hd hra
      rw [← hs0, ← hs1] at hss
      rw [← hs0] at hsl ⊢
      have HC := Lib.hid hcall; have HRA := Lib.hid hra; have HS1 := Lib.hid (And.intro hs1 hss)
      have q1 : (k : Int) < 32 := by omega
      have b1 : s0 ≤ 100000 := by omega
      have b2 : dk < 256 := by omega
      have b3 : s0 + 255 - dk = s1 ∧ dk ≤ 255 := by omega
      have i1 : IntKind.i64.wrap ((k : Int) + 1) = ((k + 1 : Nat) : Int) := by rw [IntWalk.i64_in _ (by omega)]; omega
      have i2 : IntKind.i64.wrap ((s0 : Int) + 256) = ((s0 + 256 : Nat) : Int) := by rw [IntWalk.i64_in _ (by omega)]; omega
      have i3 : IntKind.i64.wrap (((s0 + 256 : Nat) : Int) - 1) = ((s0 + 255 : Nat) : Int) := by rw [IntWalk.i64_in _ (by omega)]; omega
      have i4 : IntKind.i64.wrap (((s0 + 255 : Nat) : Int) - dk) = (s1 : Int) := by rw [IntWalk.i64_in _ (by omega)]; omega
      clear hcall hra hss hs0 hs1 hdk b3 HDK
      go_wp2_with fail
      refine (HC.out _).mono ?_
      rintro e w2 ⟨rfl, t2⟩
      have HO2 := Lib.hid (t2.own HO.out (fun _ _ e => e)); have HP2 := Lib.hid (HP.out.pure t2)
      clear t2 HO HP
      go_wp2_with (refine wpList_buildInt rfl _ rfl dk rfl ?_)
      intro g w3 e3 c3 t3
      have lg : w.heap.size ≤ g := by have := HP2.out.size; omega
      clear e3
      have HO3 := Lib.hid (t3.own HO2.out (fun _ _ e => e)); have HP3 := Lib.hid (HP2.out.pure t3)
      clear t3 HO2 HP2
      go_wp2_with (at_builtin; refine wpList_appendInt rfl _ _ rfl w.heap.size _ k _ rfl HO3.out HLO.out HP3.out.size g dk rfl c3 (by omega) ?_)
      intro ao4 c4 w4 ho4 hl4 t4
      rw [HRA.out] at ho4
      have HP4 := Lib.hid (HP3.out.trans t4 fun x hx e => by omega : Pure w w4)
      have HO4 := Lib.hid ho4; have HL4 := Lib.hid hl4
      clear t4 ho4 hl4 c3 HO3 HP3
      go_wp2
      exact ⟨⟨k + 1, ao4, c4, by omega, rfl, congrArg (Value.int .i64) (by have h := HS1.out.2; rw [HS1.out.1] at h; omega), by first | rfl | trivial, HO4, HL4, HP4⟩, by simp [intOf]; omega⟩
    · obtain rfl : k = 32 := by omega
      obtain ⟨L1, hL1⟩ : ∃ L1, L1 = (List.range 32).map (digV 8 q) := ⟨_, rfl⟩
      rw [← hL1] at HO HDV
      clear hL1
      obtain ⟨s0, hs0⟩ : ∃ s0, s0 = sumV 8 q 32 := ⟨_, rfl⟩
      rw [← hs0] at hsl ⊢
      have hsb : s0 ≤ 100000 := by omega
      have hbe := fun W => Be_anyS (s0) 2 W (by omega) (by omega)
      have hTT : beB (s0) 2 = T := by rw [hs0]; simpa using HTD.out.symm
      rw [hTT] at hbe
      have HBE := Lib.hid hbe
      have i6 : IntKind.i64.wrap (s0 : Int) = (s0 : Int) := IntWalk.i64_in _ (by omega)
      clear hbe hTT hs0 hsl hd hsum HTD
      go_wp2_with fail
      refine (HBE.out _).mono ?_
      rintro e w2 ⟨rfl, t2⟩
      have HO2 := Lib.hid (t2.own HO.out (fun _ _ e => e)); have HP2 := Lib.hid (HP.out.pure t2)
      clear t2 HO HP HBE
      go_wp2
      go_loopw [13, 18] (fun out i wr => ∃ (k : Nat) (ao : Option Addr) (cc : Nat), k ≤ 2 ∧ out = .slice ao (32 + k) cc ∧ i = .int .i64 (k : Int) ∧ Hid (wr.ownsRow 0 3 1 (.slice ao (32 + k) cc) (32 + k) (intsN (L1 ++ (List.range k).map (digV 8 T)))) ∧ Hid (∀ x, (Value.slice ao (32 + k) cc).ownBlock = some x → w.heap.size ≤ x) ∧ Hid (Pure w wr)) (fun _ i _ => 2 - (intOf i).toNat)
      case atStart => exact ⟨0, ao, cc, by omega, rfl, rfl, Lib.hid (by simpa using HO2.out), HLO, HP2⟩
      case round =>
        obtain ⟨k, ao, cc, hk, rfl, rfl, HO, HLO, HP⟩ := hrel
        by_cases hlt : k < 2
        · have hra : intsN (L1 ++ ((List.range k).map (digV 8 T) ++ [digV 8 T k])) = intsN (L1 ++ (List.range (k + 1)).map (digV 8 T)) := by rw [List.range_succ, List.map_append]; rfl
          have hcall := fun W => HDT.out W k hlt
          obtain ⟨dk, hdk⟩ : ∃ dk, dk = digV 8 T k := ⟨_, rfl⟩
          rw [← hdk] at hcall hra
          have HC := Lib.hid hcall; have HRA := Lib.hid hra
          have q1 : (((32 + k : Nat)) : Int) < 34 := by omega
          have q2 : 32 + k < 34 := by omega
          have i1 : IntKind.i64.wrap ((k : Int) + 1) = ((k + 1 : Nat) : Int) := by rw [IntWalk.i64_in _ (by omega)]; omega
          clear hcall hra hdk
          go_wp2_with fail
          refine (HC.out _).mono ?_
          rintro e w2 ⟨rfl, t2⟩
          have HO2 := Lib.hid (t2.own HO.out (fun _ _ e => e)); have HP2 := Lib.hid (HP.out.pure t2)
          clear t2 HO HP
          go_wp2_with (refine wpList_buildInt rfl _ rfl dk rfl ?_)
          intro g w3 e3 c3 t3
          have lg : w.heap.size ≤ g := by have := HP2.out.size; omega
          clear e3
          have HO3 := Lib.hid (t3.own HO2.out (fun _ _ e => e)); have HP3 := Lib.hid (HP2.out.pure t3)
          clear t3 HO2 HP2
          go_wp2_with (at_builtin; refine wpList_appendInt rfl _ _ rfl w.heap.size _ (32 + k) _ rfl HO3.out HLO.out HP3.out.size g dk rfl c3 (by omega) ?_)
          intro ao4 c4 w4 ho4 hl4 t4
          rw [HRA.out] at ho4
          have HP4 := Lib.hid (HP3.out.trans t4 fun x hx e => by omega : Pure w w4)
          have HO4 := Lib.hid ho4; have HL4 := Lib.hid hl4
          clear t4 ho4 hl4 c3 HO3 HP3
          go_wp2
          exact ⟨⟨k + 1, ao4, c4, by omega, rfl, by first | rfl | trivial, HO4, HL4, HP4⟩, by simp [intOf]; omega⟩
        · obtain rfl : k = 2 := by omega
          go_wp2
          go_ret
          exact ⟨_, rfl, by rw [HDV.out]; exact HO.out, HP.out⟩
end Go.Proofs.Ytmifchdmlbcclaa
