/- Chapter 4, the reference: a message's digits. Chapter 4, the program: a message's digits, the function that cuts them. -/
import Derived.Test.YtcfbmbhkdicpfaaOtsR
import Derived.Test.YtcfbmbhkdicpfaaOtsD
import Derived.Deep.AppendLies
namespace Go.Proofs.Ytcfbmbhkdicpfaa
open Go.RowKit

/-- Numbers in a row. -/
def intsN (l : List Nat) : List Value := l.map fun (d : Nat) => Value.int .i64 (d : Int)
theorem intsN_length (l : List Nat) : (intsN l).length = l.length := by simp [intsN]
theorem intsN_app (a b : List Nat) : intsN (a ++ b) = intsN a ++ intsN b := by simp [intsN]
theorem infoI : (Try.prog.info? 3).map (fun i => (i.zero, i.size, i.bytes)) = some (some (.int .i64 0), 1, 8) := by kernel_rfl
theorem partsI : ∃ i, Hid (Try.prog.info? 3 = some i) ∧ i.zero = some (.int .i64 0) ∧ i.size = 1 ∧ i.bytes = 8 ∧ (Value.int .i64 0).cells.size = 1 := by
  have h := infoI
  cases hi : Try.prog.info? 3 with
  | none => rw [hi] at h; simp at h
  | some i =>
    rw [hi] at h
    simp only [Option.map_some, Option.some.injEq, Prod.mk.injEq] at h
    exact ⟨i, Lib.hid rfl, h.1, h.2.1, h.2.2, by simp [Value.cells]⟩
/-- A row of one number. -/
theorem wpList_buildInt {ops : Array Oper} {rest : List Oper} {o : Oper} {a : Act} {w : World} {Q : Exit → Act → World → Prop} (hg : o.guard = none) (x : Operand) (ho : o.op = .buildSlice 60 1 #[(0, x)]) (d : Nat) (hx : a.eval x = .int .i64 (d : Int))
    (h : ∀ g w', g = w.heap.size → w'.heap[g]? = some (.cells (intsN [d]).toArray 3 (0, 0)) → Pure w w' → wpList Try.prog ops Q rest (a.put o.dst (.slice (some ⟨g, 0, none⟩) 1 1)) w') : wpList Try.prog ops Q (o :: rest) a w := by
  obtain ⟨i, hi, h1, h2, h3, _⟩ := partsI
  refine wpList_buildSlice hg 60 3 1 #[(0, x)] ho (intsN [d]).toArray i _ Try.underlying60 hi.out h1 (by rw [h2]; omega) (by rw [h2]; omega) ?_ (h _ _ rfl (heap_alloc_new _ _) ((Turn.refl _ _).alloc _))
  rw [h2]
  simp [Instr.fill, hx, Value.cells, intsN, show Array.range 1 = #[0] from rfl]
/-- A number behind a row of numbers. -/
theorem wpList_appendInt {w : World} {ops : Array Oper} {rest : List Oper} {o : Oper} {a : Act} {Q : Exit → Act → World → Prop} (hgd : o.guard = none) (sl x : Operand)
    (ho : o.op = .call { callee := .builtin .append, args := #[sl, x], argTypes := #[60, 60] }) (N : Nat) (v : Value) (n : Nat) (l : List Nat) (hv : a.eval sl = v) (hown : w.ownsRow 0 3 1 v n (intsN l)) (hlow : ∀ q, v.ownBlock = some q → N ≤ q) (hN : N ≤ w.heap.size)
    (g : Nat) (d : Nat) (hx : a.eval x = .slice (some ⟨g, 0, none⟩) 1 1) (hg : w.heap[g]? = some (.cells (intsN [d]).toArray 3 (0, 0))) (hn : n ≤ 1000)
    (h : ∀ ao c w', w'.ownsRow 0 3 1 (.slice ao (n + 1) c) (n + 1) (intsN (l ++ [d])) → (∀ q, (Value.slice ao (n + 1) c).ownBlock = some q → N ≤ q) → Turn (fun k => N ≤ k) w w' → wpList Try.prog ops Q rest (a.put o.dst (.slice ao (n + 1) c)) w') : wpList Try.prog ops Q (o :: rest) a w := by
  obtain ⟨i, hi, h1, h2, h3, h4⟩ := partsI
  refine wpList_append_turn w hgd sl x 60 60 3 ho i _ 1 8 Try.underlying60 hi.out h1 h2 h3 h4 v n (intsN l) hv hown _ hx 1 (intsN [d]) (Src.ofSlice _ Try.underlying60 _ _ _ _ rfl (World.news_of_block hg) (by simp [intsN, Value.oneCell'])) (by omega) (by omega) ?_
  intro ao c w' ho' ht hb
  rw [← intsN_app] at ho'
  refine h ao c w' ho' (fun q hq => ?_) (ht.mono fun q _ hq => hlow q hq)
  rcases hb.out with e | e
  · exact hlow q (e ▸ hq)
  · have := Option.some.inj (e.symm.trans hq); omega
theorem sumV_step (wd : Nat) (q : List UInt8) (k : Nat) : ((sumV wd q (k + 1) : Nat) : Int) = (sumV wd q k : Int) + 2 ^ wd - 1 - (digV wd q k : Int) := by
  have h1 := digV_lt wd q k
  have h2 := Nat.two_pow_pos wd
  have h3 : ((2 ^ wd : Nat) : Int) = (2 : Int) ^ wd := by rw [Int.natCast_pow]; rfl
  simp only [sumV]
  rw [← h3]
  omega

set_option maxHeartbeats 4000000 in
theorem rdigits_3 (w : World) (head c msg : List UInt8) (hh : head.length ≤ 1000) (hc : c.length = 32) (hm : msg.length ≤ 65536) :
    Calls Try.prog 136 #[.int .i64 3, .string (bstr head), .string (bstr c), .string (bstr msg)] w fun e w' => ∃ r, e = .returned r ∧ w'.ownsRow 0 3 1 r 67 (intsN (digitsV 4 67 4 (otsQV head c msg))) ∧ Pure w w' := by
  obtain ⟨A, hA⟩ : ∃ A, A = head ++ [129, 129] := ⟨_, rfl⟩
  obtain ⟨B, hB⟩ : ∃ B, B = A ++ c := ⟨_, rfl⟩
  obtain ⟨C, hC⟩ : ∃ C, C = B ++ msg := ⟨_, rfl⟩
  have hAl : A.length = head.length + 2 := by rw [hA, List.length_append]; rfl
  have hBl : B.length = head.length + 2 + 32 := by rw [hB, List.length_append, hAl, hc]
  have hCl : C.length = head.length + 2 + 32 + msg.length := by rw [hC, List.length_append, hBl]
  have a1 : bstr head ++ (⟨#[129, 129]⟩ : ByteArray) = bstr A := by rw [hA]; exact bstr_app head [129, 129]
  have a2 : bstr A ++ bstr c = bstr B := by rw [hB]; exact bstr_app _ _
  have a3 : bstr B ++ bstr msg = bstr C := by rw [hC]; exact bstr_app _ _
  have hq : otsQV head c msg = shaV C := by rw [otsQV, hC, hB, hA]; simp [show beB 33153 2 = [129, 129] from rfl]
  rw [hq]
  have z1 := bstr_size head
  have z3 : (bstr A).size = head.length + 2 := by rw [bstr_size, hAl]
  have z4 : (bstr B).size = head.length + 2 + 32 := by rw [bstr_size, hBl]
  have z5 : (bstr c).size = 32 := by rw [bstr_size, hc]
  have z6 := bstr_size msg
  have n1 : ¬ (9223372036854775807 < head.length + 2) := by omega
  have n2 : ¬ (9223372036854775807 < head.length + 2 + 32) := by omega
  have n3 : ¬ (9223372036854775807 < head.length + 2 + 32 + msg.length) := by omega
  have HH := Lib.hid (fun W => H_any W C (by omega))
  have hql : (shaV C).length = 32 := shaV_length _
  generalize shaV C = q at hql HH ⊢
  have HDG := Lib.hid (fun W (i : Nat) (hi : i < 64) => digit_any W q i 4 (by omega) (by rw [hql]; omega) (by omega))
  have hT : (beB (sumV 4 q 64 * 2 ^ 4) 2).length = 2 := beB_length _ _
  have hsum := sumV_le 4 q 64
  obtain ⟨T, hTd⟩ : ∃ T, T = beB (sumV 4 q 64 * 2 ^ 4) 2 := ⟨_, rfl⟩
  rw [← hTd] at hT
  have HDT := Lib.hid (fun W (i : Nat) (hi : i < 3) => digit_any W T i 4 (by omega) (by rw [hT]; omega) (by omega))
  have HTD := Lib.hid hTd
  have HDV : Hid (digitsV 4 67 4 q = (List.range 64).map (digV 4 q) ++ (List.range 3).map (digV 4 T)) := Lib.hid (by rw [digitsV, hTd])
  clear hA hB hC hAl hBl hCl hq hTd
  have PR := Lib.hid (Params_any w 3)
  go_enter Try.func136, Try.ntmps136
  go_wp2_with fail
  refine PR.out.mono ?_
  rintro e w0 ⟨rfl, e0⟩
  rw [e0]
  clear e0
  rw [show parV 3 = (4, 67, 4) from rfl]
  go_wp2_with fail
  refine (HH.out _).mono ?_
  rintro e w1 ⟨rfl, t1⟩
  have P1 := Lib.hid t1
  clear t1 PR HH
  go_wp2
  go_loopw [13, 14, 15, 16] (fun out sm i dd wr => ∃ (k : Nat) (ao : Option Addr) (cc : Nat), k ≤ 64 ∧ out = .slice ao k cc ∧ sm = .int .i64 ((sumV 4 q k : Nat) : Int) ∧ i = .int .i64 (k : Int) ∧ Hid (wr.ownsRow 0 3 1 (.slice ao k cc) k (intsN ((List.range k).map (digV 4 q)))) ∧ Hid (∀ x, (Value.slice ao k cc).ownBlock = some x → w.heap.size ≤ x) ∧ Hid (Pure w wr)) (fun _ _ i _ _ => 64 - (intOf i).toNat)
  case atStart => exact ⟨0, none, 0, by omega, rfl, rfl, rfl, Lib.hid (by simp only [List.range_zero, List.map_nil, intsN]; exact World.ownsRow_nil _ _ _ _), Lib.hid (fun x hx => by simp [Value.ownBlock] at hx), P1⟩
  case round =>
    obtain ⟨k, ao, cc, hk, rfl, rfl, rfl, HO, HLO, HP⟩ := hrel
    have hsl := sumV_le 4 q k
    have hd := digV_lt 4 q k
    by_cases hlt : k < 64
    · have hss := sumV_step 4 q k
      have hra : intsN ((List.range k).map (digV 4 q) ++ [digV 4 q k]) = intsN ((List.range (k + 1)).map (digV 4 q)) := by rw [List.range_succ, List.map_append]; rfl
      obtain ⟨s0, hs0⟩ : ∃ s0, s0 = sumV 4 q k := ⟨_, rfl⟩
      obtain ⟨s1, hs1⟩ : ∃ s1, s1 = sumV 4 q (k + 1) := ⟨_, rfl⟩
      have HDK := Lib.hid (HDG.out)
      obtain ⟨dk, hdk⟩ : ∃ dk, dk = digV 4 q k := ⟨_, rfl⟩
      have hcall := fun W => HDG.out W k hlt
      rw [← hdk] at hcall hss hd hra
      rw [← hs0, ← hs1] at hss
      rw [← hs0] at hsl ⊢
      have HC := Lib.hid hcall; have HRA := Lib.hid hra; have HS1 := Lib.hid (And.intro hs1 hss)
      have q1 : (k : Int) < 64 := by omega
      have b1 : s0 ≤ 100000 := by omega
      have b2 : dk < 256 := by omega
      have b3 : s0 + 15 - dk = s1 ∧ dk ≤ 15 := by omega
      have i1 : IntKind.i64.wrap ((k : Int) + 1) = ((k + 1 : Nat) : Int) := by rw [IntWalk.i64_in _ (by omega)]; omega
      have i2 : IntKind.i64.wrap ((s0 : Int) + 16) = ((s0 + 16 : Nat) : Int) := by rw [IntWalk.i64_in _ (by omega)]; omega
      have i3 : IntKind.i64.wrap (((s0 + 16 : Nat) : Int) - 1) = ((s0 + 15 : Nat) : Int) := by rw [IntWalk.i64_in _ (by omega)]; omega
      have i4 : IntKind.i64.wrap (((s0 + 15 : Nat) : Int) - dk) = (s1 : Int) := by rw [IntWalk.i64_in _ (by omega)]; omega
      clear hcall hra hss hs0 hs1 hdk b3 HDK
      go_wp2_with fail
      refine (HC.out _).mono ?_
      rintro e w2 ⟨rfl, t2⟩
      have HO2 := Lib.hid (t2.own HO.out (fun _ _ e => e)); have HP2 := Lib.hid (HP.out.pure t2)
      clear t2 HO HP
      go_wp2_with (refine wpList_buildInt rfl _ rfl dk rfl ?_)
      intro g w3 e3 c3 t3
      have lg : w.heap.size ≤ g := by have := HP2.out.size; omega
      clear e3
      have HO3 := Lib.hid (t3.own HO2.out (fun _ _ e => e)); have HP3 := Lib.hid (HP2.out.pure t3)
      clear t3 HO2 HP2
      go_wp2_with (at_builtin; refine wpList_appendInt rfl _ _ rfl w.heap.size _ k _ rfl HO3.out HLO.out HP3.out.size g dk rfl c3 (by omega) ?_)
      intro ao4 c4 w4 ho4 hl4 t4
      rw [HRA.out] at ho4
      have HP4 := Lib.hid (HP3.out.trans t4 fun x hx e => by omega : Pure w w4)
      have HO4 := Lib.hid ho4; have HL4 := Lib.hid hl4
      clear t4 ho4 hl4 c3 HO3 HP3
      go_wp2
      exact ⟨⟨k + 1, ao4, c4, by omega, rfl, congrArg (Value.int .i64) (by have h := HS1.out.2; rw [HS1.out.1] at h; omega), by first | rfl | trivial, HO4, HL4, HP4⟩, by simp [intOf]; omega⟩
    · obtain rfl : k = 64 := by omega
      obtain ⟨L1, hL1⟩ : ∃ L1, L1 = (List.range 64).map (digV 4 q) := ⟨_, rfl⟩
      rw [← hL1] at HO HDV
      clear hL1
      obtain ⟨s0, hs0⟩ : ∃ s0, s0 = sumV 4 q 64 := ⟨_, rfl⟩
      rw [← hs0] at hsl ⊢
      have hsb : s0 ≤ 100000 := by omega
      have hbe := fun W => Be_anyS (s0 * 16) 2 W (by omega) (by omega)
      have hTT : beB (s0 * 16) 2 = T := by rw [hs0]; exact HTD.out.symm
      rw [hTT] at hbe
      have HBE := Lib.hid hbe
      have i5 : IntKind.i64.wrap ((s0 : Int) * 16) = ((s0 * 16 : Nat) : Int) := by rw [IntWalk.i64_in _ (by omega)]; omega
      have i6 : IntKind.i64.wrap (s0 : Int) = (s0 : Int) := IntWalk.i64_in _ (by omega)
      clear hbe hTT hs0 hsl hd hsum HTD
      go_wp2_with fail
      refine (HBE.out _).mono ?_
      rintro e w2 ⟨rfl, t2⟩
      have HO2 := Lib.hid (t2.own HO.out (fun _ _ e => e)); have HP2 := Lib.hid (HP.out.pure t2)
      clear t2 HO HP HBE
      go_wp2
      go_loopw [13, 18] (fun out i wr => ∃ (k : Nat) (ao : Option Addr) (cc : Nat), k ≤ 3 ∧ out = .slice ao (64 + k) cc ∧ i = .int .i64 (k : Int) ∧ Hid (wr.ownsRow 0 3 1 (.slice ao (64 + k) cc) (64 + k) (intsN (L1 ++ (List.range k).map (digV 4 T)))) ∧ Hid (∀ x, (Value.slice ao (64 + k) cc).ownBlock = some x → w.heap.size ≤ x) ∧ Hid (Pure w wr)) (fun _ i _ => 3 - (intOf i).toNat)
      case atStart => exact ⟨0, ao, cc, by omega, rfl, rfl, Lib.hid (by simpa using HO2.out), HLO, HP2⟩
      case round =>
        obtain ⟨k, ao, cc, hk, rfl, rfl, HO, HLO, HP⟩ := hrel
        by_cases hlt : k < 3
        · have hra : intsN (L1 ++ ((List.range k).map (digV 4 T) ++ [digV 4 T k])) = intsN (L1 ++ (List.range (k + 1)).map (digV 4 T)) := by rw [List.range_succ, List.map_append]; rfl
          have hcall := fun W => HDT.out W k hlt
          obtain ⟨dk, hdk⟩ : ∃ dk, dk = digV 4 T k := ⟨_, rfl⟩
          rw [← hdk] at hcall hra
          have HC := Lib.hid hcall; have HRA := Lib.hid hra
          have q1 : (((64 + k : Nat)) : Int) < 67 := by omega
          have q2 : 64 + k < 67 := by omega
          have i1 : IntKind.i64.wrap ((k : Int) + 1) = ((k + 1 : Nat) : Int) := by rw [IntWalk.i64_in _ (by omega)]; omega
          clear hcall hra hdk
          go_wp2_with fail
          refine (HC.out _).mono ?_
          rintro e w2 ⟨rfl, t2⟩
          have HO2 := Lib.hid (t2.own HO.out (fun _ _ e => e)); have HP2 := Lib.hid (HP.out.pure t2)
          clear t2 HO HP
          go_wp2_with (refine wpList_buildInt rfl _ rfl dk rfl ?_)
          intro g w3 e3 c3 t3
          have lg : w.heap.size ≤ g := by have := HP2.out.size; omega
          clear e3
          have HO3 := Lib.hid (t3.own HO2.out (fun _ _ e => e)); have HP3 := Lib.hid (HP2.out.pure t3)
          clear t3 HO2 HP2
          go_wp2_with (at_builtin; refine wpList_appendInt rfl _ _ rfl w.heap.size _ (64 + k) _ rfl HO3.out HLO.out HP3.out.size g dk rfl c3 (by omega) ?_)
          intro ao4 c4 w4 ho4 hl4 t4
          rw [HRA.out] at ho4
          have HP4 := Lib.hid (HP3.out.trans t4 fun x hx e => by omega : Pure w w4)
          have HO4 := Lib.hid ho4; have HL4 := Lib.hid hl4
          clear t4 ho4 hl4 c3 HO3 HP3
          go_wp2
          exact ⟨⟨k + 1, ao4, c4, by omega, rfl, by first | rfl | trivial, HO4, HL4, HP4⟩, by simp [intOf]; omega⟩
        · obtain rfl : k = 3 := by omega
          go_wp2
          go_ret
          exact ⟨_, rfl, by rw [HDV.out]; exact HO.out, HP.out⟩

set_option maxHeartbeats 4000000 in
theorem rdigits_4 (w : World) (head c msg : List UInt8) (hh : head.length ≤ 1000) (hc : c.length = 32) (hm : msg.length ≤ 65536) :
    Calls Try.prog 136 #[.int .i64 4, .string (bstr head), .string (bstr c), .string (bstr msg)] w fun e w' => ∃ r, e = .returned r ∧ w'.ownsRow 0 3 1 r 34 (intsN (digitsV 8 34 0 (otsQV head c msg))) ∧ Pure w w' := by
  obtain ⟨A, hA⟩ : ∃ A, A = head ++ [129, 129] := ⟨_, rfl⟩
  obtain ⟨B, hB⟩ : ∃ B, B = A ++ c := ⟨_, rfl⟩
  obtain ⟨C, hC⟩ : ∃ C, C = B ++ msg := ⟨_, rfl⟩
  have hAl : A.length = head.length + 2 := by rw [hA, List.length_append]; rfl
  have hBl : B.length = head.length + 2 + 32 := by rw [hB, List.length_append, hAl, hc]
  have hCl : C.length = head.length + 2 + 32 + msg.length := by rw [hC, List.length_append, hBl]
  have a1 : bstr head ++ (⟨#[129, 129]⟩ : ByteArray) = bstr A := by rw [hA]; exact bstr_app head [129, 129]
  have a2 : bstr A ++ bstr c = bstr B := by rw [hB]; exact bstr_app _ _
  have a3 : bstr B ++ bstr msg = bstr C := by rw [hC]; exact bstr_app _ _
  have hq : otsQV head c msg = shaV C := by rw [otsQV, hC, hB, hA]; simp [show beB 33153 2 = [129, 129] from rfl]
  rw [hq]
  have z1 := bstr_size head
  have z3 : (bstr A).size = head.length + 2 := by rw [bstr_size, hAl]
  have z4 : (bstr B).size = head.length + 2 + 32 := by rw [bstr_size, hBl]
  have z5 : (bstr c).size = 32 := by rw [bstr_size, hc]
  have z6 := bstr_size msg
  have n1 : ¬ (9223372036854775807 < head.length + 2) := by omega
  have n2 : ¬ (9223372036854775807 < head.length + 2 + 32) := by omega
  have n3 : ¬ (9223372036854775807 < head.length + 2 + 32 + msg.length) := by omega
  have HH := Lib.hid (fun W => H_any W C (by omega))
  have hql : (shaV C).length = 32 := shaV_length _
  generalize shaV C = q at hql HH ⊢
  have HDG := Lib.hid (fun W (i : Nat) (hi : i < 32) => digit_any W q i 8 (by omega) (by rw [hql]; omega) (by omega))
  have hT : (beB (sumV 8 q 32 * 2 ^ 0) 2).length = 2 := beB_length _ _
  have hsum := sumV_le 8 q 32
  obtain ⟨T, hTd⟩ : ∃ T, T = beB (sumV 8 q 32 * 2 ^ 0) 2 := ⟨_, rfl⟩
  rw [← hTd] at hT
  have HDT := Lib.hid (fun W (i : Nat) (hi : i < 2) => digit_any W T i 8 (by omega) (by rw [hT]; omega) (by omega))
  have HTD := Lib.hid hTd
  have HDV : Hid (digitsV 8 34 0 q = (List.range 32).map (digV 8 q) ++ (List.range 2).map (digV 8 T)) := Lib.hid (by rw [digitsV, hTd])
  clear hA hB hC hAl hBl hCl hq hTd
  have PR := Lib.hid (Params_any w 4)
  go_enter Try.func136, Try.ntmps136
  go_wp2_with fail
  refine PR.out.mono ?_
  rintro e w0 ⟨rfl, e0⟩
  rw [e0]
  clear e0
  rw [show parV 4 = (8, 34, 0) from rfl]
  go_wp2_with fail
  refine (HH.out _).mono ?_
  rintro e w1 ⟨rfl, t1⟩
  have P1 := Lib.hid t1
  clear t1 PR HH
  go_wp2
  go_loopw [13, 14, 15, 16] (fun out sm i dd wr => ∃ (k : Nat) (ao : Option Addr) (cc : Nat), k ≤ 32 ∧ out = .slice ao k cc ∧ sm = .int .i64 ((sumV 8 q k : Nat) : Int) ∧ i = .int .i64 (k : Int) ∧ Hid (wr.ownsRow 0 3 1 (.slice ao k cc) k (intsN ((List.range k).map (digV 8 q)))) ∧ Hid (∀ x, (Value.slice ao k cc).ownBlock = some x → w.heap.size ≤ x) ∧ Hid (Pure w wr)) (fun _ _ i _ _ => 32 - (intOf i).toNat)
  case atStart => exact ⟨0, none, 0, by omega, rfl, rfl, rfl, Lib.hid (by simp only [List.range_zero, List.map_nil, intsN]; exact World.ownsRow_nil _ _ _ _), Lib.hid (fun x hx => by simp [Value.ownBlock] at hx), P1⟩
  case round =>
    obtain ⟨k, ao, cc, hk, rfl, rfl, rfl, HO, HLO, HP⟩ := hrel
    have hsl := sumV_le 8 q k
    have hd := digV_lt 8 q k
    by_cases hlt : k < 32
    · have hss := sumV_step 8 q k
      have hra : intsN ((List.range k).map (digV 8 q) ++ [digV 8 q k]) = intsN ((List.range (k + 1)).map (digV 8 q)) := by rw [List.range_succ, List.map_append]; rfl
      obtain ⟨s0, hs0⟩ : ∃ s0, s0 = sumV 8 q k := ⟨_, rfl⟩
      obtain ⟨s1, hs1⟩ : ∃ s1, s1 = sumV 8 q (k + 1) := ⟨_, rfl⟩
      have HDK := Lib.hid (HDG.out)
      obtain ⟨dk, hdk⟩ : ∃ dk, dk = digV 8 q k := ⟨_, rfl⟩
      have hcall := fun W => HDG.out W k hlt
      rw [← hdk] at hcall hss hd hra
      rw [← hs0, ← hs1] at hss
      rw [← hs0] at hsl ⊢
      have HC := Lib.hid hcall; have HRA := Lib.hid hra; have HS1 := Lib.hid (And.intro hs1 hss)
      have q1 : (k : Int) < 32 := by omega
      have b1 : s0 ≤ 100000 := by omega
      have b2 : dk < 256 := by omega
      have b3 : s0 + 255 - dk = s1 ∧ dk ≤ 255 := by omega
      have i1 : IntKind.i64.wrap ((k : Int) + 1) = ((k + 1 : Nat) : Int) := by rw [IntWalk.i64_in _ (by omega)]; omega
      have i2 : IntKind.i64.wrap ((s0 : Int) + 256) = ((s0 + 256 : Nat) : Int) := by rw [IntWalk.i64_in _ (by omega)]; omega
      have i3 : IntKind.i64.wrap (((s0 + 256 : Nat) : Int) - 1) = ((s0 + 255 : Nat) : Int) := by rw [IntWalk.i64_in _ (by omega)]; omega
      have i4 : IntKind.i64.wrap (((s0 + 255 : Nat) : Int) - dk) = (s1 : Int) := by rw [IntWalk.i64_in _ (by omega)]; omega
      clear hcall hra hss hs0 hs1 hdk b3 HDK
      go_wp2_with fail
      refine (HC.out _).mono ?_
      rintro e w2 ⟨rfl, t2⟩
      have HO2 := Lib.hid (t2.own HO.out (fun _ _ e => e)); have HP2 := Lib.hid (HP.out.pure t2)
      clear t2 HO HP
      go_wp2_with (refine wpList_buildInt rfl _ rfl dk rfl ?_)
      intro g w3 e3 c3 t3
      have lg : w.heap.size ≤ g := by have := HP2.out.size; omega
      clear e3
      have HO3 := Lib.hid (t3.own HO2.out (fun _ _ e => e)); have HP3 := Lib.hid (HP2.out.pure t3)
      clear t3 HO2 HP2
      go_wp2_with (at_builtin; refine wpList_appendInt rfl _ _ rfl w.heap.size _ k _ rfl HO3.out HLO.out HP3.out.size g dk rfl c3 (by omega) ?_)
      intro ao4 c4 w4 ho4 hl4 t4
      rw [HRA.out] at ho4
      have HP4 := Lib.hid (HP3.out.trans t4 fun x hx e => by omega : Pure w w4)
      have HO4 := Lib.hid ho4; have HL4 := Lib.hid hl4
      clear t4 ho4 hl4 c3 HO3 HP3
      go_wp2
      exact ⟨⟨k + 1, ao4, c4, by omega, rfl, congrArg (Value.int .i64) (by have h := HS1.out.2; rw [HS1.out.1] at h; omega), by first | rfl | trivial, HO4, HL4, HP4⟩, by simp [intOf]; omega⟩
    · obtain rfl : k = 32 := by omega
      obtain ⟨L1, hL1⟩ : ∃ L1, L1 = (List.range 32).map (digV 8 q) := ⟨_, rfl⟩
      rw [← hL1] at HO HDV
      clear hL1
      obtain ⟨s0, hs0⟩ : ∃ s0, s0 = sumV 8 q 32 := ⟨_, rfl⟩
      rw [← hs0] at hsl ⊢
      have hsb : s0 ≤ 100000 := by omega
      have hbe := fun W => Be_anyS (s0) 2 W (by omega) (by omega)
      have hTT : beB (s0) 2 = T := by rw [hs0]; simpa using HTD.out.symm
      rw [hTT] at hbe
      have HBE := Lib.hid hbe
      have i6 : IntKind.i64.wrap (s0 : Int) = (s0 : Int) := IntWalk.i64_in _ (by omega)
      clear hbe hTT hs0 hsl hd hsum HTD
      go_wp2_with fail
      refine (HBE.out _).mono ?_
      rintro e w2 ⟨rfl, t2⟩
      have HO2 := Lib.hid (t2.own HO.out (fun _ _ e => e)); have HP2 := Lib.hid (HP.out.pure t2)
      clear t2 HO HP HBE
      go_wp2
      go_loopw [13, 18] (fun out i wr => ∃ (k : Nat) (ao : Option Addr) (cc : Nat), k ≤ 2 ∧ out = .slice ao (32 + k) cc ∧ i = .int .i64 (k : Int) ∧ Hid (wr.ownsRow 0 3 1 (.slice ao (32 + k) cc) (32 + k) (intsN (L1 ++ (List.range k).map (digV 8 T)))) ∧ Hid (∀ x, (Value.slice ao (32 + k) cc).ownBlock = some x → w.heap.size ≤ x) ∧ Hid (Pure w wr)) (fun _ i _ => 2 - (intOf i).toNat)
      case atStart => exact ⟨0, ao, cc, by omega, rfl, rfl, Lib.hid (by simpa using HO2.out), HLO, HP2⟩
      case round =>
        obtain ⟨k, ao, cc, hk, rfl, rfl, HO, HLO, HP⟩ := hrel
        by_cases hlt : k < 2
        · have hra : intsN (L1 ++ ((List.range k).map (digV 8 T) ++ [digV 8 T k])) = intsN (L1 ++ (List.range (k + 1)).map (digV 8 T)) := by rw [List.range_succ, List.map_append]; rfl
          have hcall := fun W => HDT.out W k hlt
          obtain ⟨dk, hdk⟩ : ∃ dk, dk = digV 8 T k := ⟨_, rfl⟩
          rw [← hdk] at hcall hra
          have HC := Lib.hid hcall; have HRA := Lib.hid hra
          have q1 : (((32 + k : Nat)) : Int) < 34 := by omega
          have q2 : 32 + k < 34 := by omega
          have i1 : IntKind.i64.wrap ((k : Int) + 1) = ((k + 1 : Nat) : Int) := by rw [IntWalk.i64_in _ (by omega)]; omega
          clear hcall hra hdk
          go_wp2_with fail
          refine (HC.out _).mono ?_
          rintro e w2 ⟨rfl, t2⟩
          have HO2 := Lib.hid (t2.own HO.out (fun _ _ e => e)); have HP2 := Lib.hid (HP.out.pure t2)
          clear t2 HO HP
          go_wp2_with (refine wpList_buildInt rfl _ rfl dk rfl ?_)
          intro g w3 e3 c3 t3
          have lg : w.heap.size ≤ g := by have := HP2.out.size; omega
          clear e3
          have HO3 := Lib.hid (t3.own HO2.out (fun _ _ e => e)); have HP3 := Lib.hid (HP2.out.pure t3)
          clear t3 HO2 HP2
          go_wp2_with (at_builtin; refine wpList_appendInt rfl _ _ rfl w.heap.size _ (32 + k) _ rfl HO3.out HLO.out HP3.out.size g dk rfl c3 (by omega) ?_)
          intro ao4 c4 w4 ho4 hl4 t4
          rw [HRA.out] at ho4
          have HP4 := Lib.hid (HP3.out.trans t4 fun x hx e => by omega : Pure w w4)
          have HO4 := Lib.hid ho4; have HL4 := Lib.hid hl4
          clear t4 ho4 hl4 c3 HO3 HP3
          go_wp2
          exact ⟨⟨k + 1, ao4, c4, by omega, rfl, by first | rfl | trivial, HO4, HL4, HP4⟩, by simp [intOf]; omega⟩
        · obtain rfl : k = 2 := by omega
          go_wp2
          go_ret
          exact ⟨_, rfl, by rw [HDV.out]; exact HO.out, HP.out⟩

/-- What the function that cuts digits holds: the kind, the greatest digit, the sum, the digits. -/
structure DigSt (w : World) (gk gm go gs wd p ls S : Nat) (ao : Option Addr) (cc : Nat) (L : List Nat) : Prop where
  k_ : w.heap[gk]? = some (.cells #[.int .i64 (wd : Int), .int .i64 (p : Int), .int .i64 (ls : Int)] 157 (0, 0))
  m_ : w.heap[gm]? = some (.cells #[.int .i64 ((2 ^ wd - 1 : Nat) : Int)] 3 (0, 0))
  s_ : w.heap[gs]? = some (.cells #[.int .i64 (S : Int)] 3 (0, 0))
  o_ : w.heap[go]? = some (.cells #[.slice ao L.length cc] 60 (0, 0))
  row : w.ownsRow 0 3 1 (.slice ao L.length cc) L.length (intsN L)
  low : ∀ q, (Value.slice ao L.length cc).ownBlock = some q → gs < q
  lt : gk < gm ∧ gm < go ∧ go < gs
theorem DigSt.pure {w w' : World} {gk gm go gs wd p ls S : Nat} {ao : Option Addr} {cc : Nat} {L : List Nat} (h : DigSt w gk gm go gs wd p ls S ao cc L) (t : Pure w w') : DigSt w' gk gm go gs wd p ls S ao cc L :=
  ⟨t.obj h.k_ (fun e => e), t.obj h.m_ (fun e => e), t.obj h.s_ (fun e => e), t.obj h.o_ (fun e => e), t.own h.row (fun _ _ e => e), h.low, h.lt⟩
theorem DigSt.k0 {w : World} {gk gm go gs wd p ls S : Nat} {ao : Option Addr} {cc : Nat} {L : List Nat} (h : DigSt w gk gm go gs wd p ls S ao cc L) : w.cell? ⟨gk, 0, none⟩ = some (.int .i64 (wd : Int)) := by rw [cell_of_row w gk 0 _ _ _ h.k_]; rfl
theorem DigSt.m0 {w : World} {gk gm go gs wd p ls S : Nat} {ao : Option Addr} {cc : Nat} {L : List Nat} (h : DigSt w gk gm go gs wd p ls S ao cc L) : w.cell? ⟨gm, 0, none⟩ = some (.int .i64 ((2 ^ wd - 1 : Nat) : Int)) := by rw [cell_of_row w gm 0 _ _ _ h.m_]; rfl
theorem DigSt.s0 {w : World} {gk gm go gs wd p ls S : Nat} {ao : Option Addr} {cc : Nat} {L : List Nat} (h : DigSt w gk gm go gs wd p ls S ao cc L) : w.cell? ⟨gs, 0, none⟩ = some (.int .i64 (S : Int)) := by rw [cell_of_row w gs 0 _ _ _ h.s_]; rfl
theorem DigSt.o0 {w : World} {gk gm go gs wd p ls S : Nat} {ao : Option Addr} {cc : Nat} {L : List Nat} (h : DigSt w gk gm go gs wd p ls S ao cc L) : w.cell? ⟨go, 0, none⟩ = some (.slice ao L.length cc) := by rw [cell_of_row w go 0 _ _ _ h.o_]; rfl
/-- The sum is written. -/
theorem DigSt.setS {w : World} {gk gm go gs wd p ls S : Nat} {ao : Option Addr} {cc : Nat} {L : List Nat} (h : DigSt w gk gm go gs wd p ls S ao cc L) (S' : Nat) :
    DigSt (w.setCell ⟨gs, 0, none⟩ (.int .i64 (S' : Int))) gk gm go gs wd p ls S' ao cc L ∧ Turn (fun k => go ≤ k) w (w.setCell ⟨gs, 0, none⟩ (.int .i64 (S' : Int))) := by
  have t : Turn (fun k => k = gs) w (w.setCell ⟨gs, 0, none⟩ (.int .i64 (S' : Int))) := (Turn.refl (fun k => k = gs) w).setCell (p := ⟨gs, 0, none⟩) (fun _ => rfl) _
  obtain ⟨l1, l2, l3⟩ := h.lt
  exact ⟨⟨t.obj h.k_ (by omega), t.obj h.m_ (by omega), heap_set_cell h.s_, t.obj h.o_ (by omega), t.own h.row (fun q hq e => by have := h.low q hq; omega), h.low, h.lt⟩, t.mono fun k _ e => by omega⟩
/-- The digits are written. -/
theorem DigSt.setO {w w1 : World} {gk gm go gs wd p ls S : Nat} {ao : Option Addr} {cc : Nat} {L : List Nat} (h : DigSt w gk gm go gs wd p ls S ao cc L) (t : Turn (fun k => gs < k) w w1) {ao' : Option Addr} {cc' : Nat} {L' : List Nat} (hr : w1.ownsRow 0 3 1 (.slice ao' L'.length cc') L'.length (intsN L'))
    (hl : ∀ q, (Value.slice ao' L'.length cc').ownBlock = some q → gs < q) :
    DigSt (w1.setCell ⟨go, 0, none⟩ (.slice ao' L'.length cc')) gk gm go gs wd p ls S ao' cc' L' ∧ Turn (fun k => go ≤ k) w (w1.setCell ⟨go, 0, none⟩ (.slice ao' L'.length cc')) := by
  obtain ⟨l1, l2, l3⟩ := h.lt
  have t2 : Turn (fun k => k = go) w1 (w1.setCell ⟨go, 0, none⟩ (.slice ao' L'.length cc')) := (Turn.refl (fun k => k = go) w1).setCell (p := ⟨go, 0, none⟩) (fun _ => rfl) _
  have ho := t.obj h.o_ (by omega)
  exact ⟨⟨t2.obj (t.obj h.k_ (by omega)) (by omega), t2.obj (t.obj h.m_ (by omega)) (by omega), t2.obj (t.obj h.s_ (by omega)) (by omega), heap_set_cell ho, t2.own hr (fun q hq e => by have := hl q hq; omega), hl, h.lt⟩,
    (t.mono (S' := fun k => go ≤ k) fun k _ e => by omega).trans t2 fun k _ e => by omega⟩

set_option maxRecDepth 100000 in
set_option maxHeartbeats 4000000 in
theorem cutd_4 (w : World) (s : List UInt8) (many gk gm go gs p ls S : Nat) (ao : Option Addr) (cc : Nat) (L : List Nat) (h : DigSt w gk gm go gs 4 p ls S ao cc L) (hs : ∀ i, i < many → i * 4 / 8 < s.length) (hm : many ≤ 64) (hS : S ≤ 100000) (hL : L.length ≤ 500) :
    Calls Try.prog 140 #[.string (bstr s), .int .i64 (many : Int), .pointer (some ⟨gk, 0, none⟩), .pointer (some ⟨gm, 0, none⟩), .pointer (some ⟨gs, 0, none⟩), .pointer (some ⟨go, 0, none⟩)] w fun e w' => e = .returned (.tuple #[]) ∧ (∃ ao' cc', DigSt w' gk gm go gs 4 p ls (S + sumV 4 s many) ao' cc' (L ++ (List.range many).map (digV 4 s))) ∧ Turn (fun k => go ≤ k) w w' := by
  have H := Lib.hid h
  have HSL := Lib.hid hs
  have hlt := h.lt
  clear h hs
  go_enter Try.func140, Try.ntmps140
  go_wp2
  go_loopw [8, 9, 10, 12] (fun _ _ _ i wr => ∃ (k : Nat) (ao' : Option Addr) (cc' : Nat), k ≤ many ∧ i = .int .i64 (k : Int) ∧ Hid (DigSt wr gk gm go gs 4 p ls (S + sumV 4 s k) ao' cc' (L ++ (List.range k).map (digV 4 s))) ∧ Hid (Turn (fun k => go ≤ k) w wr)) (fun _ _ _ i _ => many - (intOf i).toNat)
  case atStart => exact ⟨0, ao, cc, by omega, rfl, Lib.hid (by simpa [sumV] using H.out), Lib.hid (Turn.refl _ _)⟩
  case round =>
    obtain ⟨k, ao', cc', hk, rfl, HD, HT⟩ := hrel
    by_cases hlk : k < many
    · have q1 : (k : Int) < many := by omega
      have hi := HSL.out k hlk
      obtain ⟨at_, hat⟩ : ∃ a, a = k * 4 := ⟨_, rfl⟩
      obtain ⟨k8, hk8⟩ : ∃ x, x = at_ / 8 := ⟨_, rfl⟩
      obtain ⟨r, hr⟩ : ∃ r, r = at_ % 8 := ⟨_, rfl⟩
      have hatl : at_ ≤ 1000 := by omega
      rw [← hat, ← hk8] at hi
      have ix := fun W => index_bstr W s (k8 : Int) k8 rfl hi
      have hb := (s.getD k8 0).toNat_lt
      have hd : digV 4 s k = (s.getD k8 0).toNat / 2 ^ (8 - 4 - r) % 2 ^ 4 := by rw [digV, ← hat, ← hk8, ← hr]
      have hrw : r + 4 ≤ 8 := by omega
      obtain ⟨c, hc⟩ : ∃ c, c = (s.getD k8 0).toNat := ⟨_, rfl⟩
      rw [← hc] at ix hb hd
      obtain ⟨t, ht⟩ : ∃ t, t = 8 - 4 - r := ⟨_, rfl⟩
      rw [← ht] at hd
      obtain ⟨y, hy⟩ : ∃ y, y = c / 2 ^ t := ⟨_, rfl⟩
      rw [← hy] at hd
      have hyl : y < 256 := by rw [hy]; exact Nat.lt_of_le_of_lt (Nat.div_le_self _ _) hb
      have hand := and_low y 4 (by omega) hyl
      rw [← hd] at hand
      have hdl := digV_lt 4 s k
      have hsv : sumV 4 s (k + 1) = sumV 4 s k + (16 - 1 - digV 4 s k) := rfl
      have hsl := sumV_le 4 s k
      have hra : L ++ (List.range (k + 1)).map (digV 4 s) = (L ++ (List.range k).map (digV 4 s)) ++ [digV 4 s k] := by rw [List.range_succ, List.map_append, List.append_assoc]; rfl
      obtain ⟨D, hD⟩ : ∃ D, D = digV 4 s k := ⟨_, rfl⟩
      rw [← hD] at hand hdl hsv hra
      obtain ⟨S0, hS0⟩ : ∃ S0, S0 = S + sumV 4 s k := ⟨_, rfl⟩
      obtain ⟨S1, hS1⟩ : ∃ S1, S1 = S + sumV 4 s (k + 1) := ⟨_, rfl⟩
      obtain ⟨L0, hL0⟩ : ∃ L0, L0 = L ++ (List.range k).map (digV 4 s) := ⟨_, rfl⟩
      have hL0l : L0.length ≤ 600 := by rw [hL0]; simp; omega
      have hS1e : S1 = S0 + (15 - D) := by omega
      rw [← hS0, ← hL0] at HD
      rw [← hL0] at hra
      have hSb : S0 ≤ 200000 := by omega
      have e1 : (at_ : Int).tdiv 8 = (k8 : Int) := by rw [Int.tdiv_eq_ediv_of_nonneg (by omega)]; omega
      have e2 : (at_ : Int).tmod 8 = (r : Int) := by rw [Int.tmod_eq_emod_of_nonneg (by omega)]; omega
      have e3 : (c : Int) / 2 ^ t = (y : Int) := by rw [hy, Int.natCast_ediv, Int.natCast_pow]; rfl
      have e4 : (k : Int) * 4 = (at_ : Int) := by omega
      have wa : IntKind.i64.wrap (at_ : Int) = at_ := IntWalk.i64_in _ (by omega)
      have wk : IntKind.i64.wrap (k8 : Int) = k8 := IntWalk.i64_in _ (by omega)
      have wr_ : IntKind.i64.wrap (r : Int) = r := IntWalk.i64_in _ (by omega)
      have wc : IntKind.i64.wrap (c : Int) = c := IntWalk.i64_in _ (by omega)
      have wy : IntKind.i64.wrap (y : Int) = y := IntWalk.i64_in _ (by omega)
      have wt : IntKind.i64.wrap (t : Int) = t := IntWalk.i64_in _ (by omega)
      have x1 : IntKind.i64.wrap 4 = 4 := IntWalk.i64_in _ (by omega)
      have x2 : IntKind.i64.wrap (4 - (r : Int)) = (t : Int) := by rw [IntWalk.i64_in _ (by omega)]; omega
      have x3 : IntKind.i64.wrap (-(r : Int)) = (-(r : Int)) := IntWalk.i64_in _ (by omega)
      have x4 := True.intro
      have hand : bits .and .i64 (y : Int) 15 = (D : Int) := hand
      have i1 : IntKind.i64.wrap ((k : Int) + 1) = ((k + 1 : Nat) : Int) := by rw [IntWalk.i64_in _ (by omega)]; omega
      have i2 : IntKind.i64.wrap (15 - (D : Int)) = ((15 - D : Nat) : Int) := by rw [IntWalk.i64_in _ (by omega)]; omega
      have i3 : IntKind.i64.wrap ((S0 : Int) + ((15 - D : Nat) : Int)) = (S1 : Int) := by rw [IntWalk.i64_in _ (by omega)]; omega
      have t8 : t ≤ 8 := by omega
      have HE := Lib.hid (And.intro hS0 (And.intro hS1 (And.intro hL0 (And.intro hra hS1e))))
      clear hat hk8 hr hd hc ht hy hsv hsl hD hS0 hS1 hL0 hra hS1e hrw
      have c0 := HD.out.k0
      have m0 : wr.cell? ⟨gm, 0, none⟩ = some (.int .i64 15) := HD.out.m0
      have s0 := HD.out.s0
      have o0 := HD.out.o0
      have c0 : wr.cell? ⟨gk, 0, none⟩ = some (.int .i64 4) := c0
      go_wp2_with fail
      refine wp_region_held_drew (S := fun w' => w'.cell? ⟨gk, 0, none⟩ = some (.int .i64 4) ∧ w'.cell? ⟨gm, 0, none⟩ = some (.int .i64 15)) (by kernel_rfl) (show wr.drew.cell? ⟨gk, 0, none⟩ = some (.int .i64 4) ∧ wr.drew.cell? ⟨gm, 0, none⟩ = some (.int .i64 15) from ⟨c0, m0⟩) (fun hHeld => ?_)
      have HS := Lib.hid hHeld
      have HD2 := Lib.hid (HD.out.pure ((Turn.refl (fun _ => False) wr).drew)); have HT2 := Lib.hid HT.out.drew
      clear hHeld c0 m0 s0 o0 HD HT
      generalize wr.drew = w2 at *
      refine wpAnyH_take (i := 0) (v := .string (bstr s)) rfl (by kernel_rfl) (by kernel_rfl) (by kernel_rfl) (fun _ _ _ h => h) (Or.inl ⟨by rfl, fun w hSw => by go_simp⟩) HS.out ?_
      simp only [AP]
      refine wpAnyH_take (i := 1) (v := .int .i64 (at_ : Int)) rfl (by kernel_rfl) (by kernel_rfl) (by kernel_rfl) (fun _ _ _ h => h) (Or.inl ⟨by rfl, fun w hSw => by go_simp⟩) HS.out ?_
      simp only [AP]
      refine wpAnyH_take (i := 2) (v := .int .i64 (k8 : Int)) rfl (by kernel_rfl) (by kernel_rfl) (by kernel_rfl) (fun _ _ _ h => h) (Or.inl ⟨by rfl, fun w hSw => by go_simp⟩) HS.out ?_
      simp only [AP]
      refine wpAnyH_take (i := 3) (v := .int .u8 (c : Int)) rfl (by kernel_rfl) (by kernel_rfl) (by kernel_rfl) (fun _ _ _ h => h) (Or.inl ⟨by rfl, fun w hSw => by go_simp⟩) HS.out ?_
      simp only [AP]
      refine wpAnyH_take (i := 4) (v := .int .i64 (c : Int)) rfl (by kernel_rfl) (by kernel_rfl) (by kernel_rfl) (fun _ _ _ h => h) (Or.inl ⟨by rfl, fun w hSw => by go_simp⟩) HS.out ?_
      simp only [AP]
      refine wpAnyH_take (i := 5) (v := .pointer (some ⟨gk, 0, none⟩)) rfl (by kernel_rfl) (by kernel_rfl) (by kernel_rfl) (fun _ _ _ h => h) (Or.inl ⟨by rfl, fun w hSw => by go_simp⟩) HS.out ?_
      simp only [AP]
      refine wpAnyH_take (i := 6) (v := .int .i64 4) rfl (by kernel_rfl) (by kernel_rfl) (by kernel_rfl) (fun _ _ _ h => h) (Or.inl ⟨by rfl, fun w hSw => by obtain ⟨h1, h2⟩ := hSw; go_simp⟩) HS.out ?_
      simp only [AP]
      refine wpAnyH_take (i := 7) (v := .int .i64 4) rfl (by kernel_rfl) (by kernel_rfl) (by kernel_rfl) (fun _ _ _ h => h) (Or.inl ⟨by rfl, fun w hSw => by go_simp⟩) HS.out ?_
      simp only [AP]
      refine wpAnyH_take (i := 8) (v := .int .i64 (at_ : Int)) rfl (by kernel_rfl) (by kernel_rfl) (by kernel_rfl) (fun _ _ _ h => h) (Or.inl ⟨by rfl, fun w hSw => by go_simp⟩) HS.out ?_
      simp only [AP]
      refine wpAnyH_take (i := 9) (v := .int .i64 (r : Int)) rfl (by kernel_rfl) (by kernel_rfl) (by kernel_rfl) (fun _ _ _ h => h) (Or.inl ⟨by rfl, fun w hSw => by go_simp⟩) HS.out ?_
      simp only [AP]
      refine wpAnyH_take (i := 10) (v := .int .i64 (t : Int)) rfl (by kernel_rfl) (by kernel_rfl) (by kernel_rfl) (fun _ _ _ h => h) (Or.inl ⟨by rfl, fun w hSw => by go_simp⟩) HS.out ?_
      simp only [AP]
      refine wpAnyH_take (i := 11) (v := .int .i64 (y : Int)) rfl (by kernel_rfl) (by kernel_rfl) (by kernel_rfl) (fun _ _ _ h => h) (Or.inl ⟨by rfl, fun w hSw => by go_simp⟩) HS.out ?_
      simp only [AP]
      refine wpAnyH_take (i := 12) (v := .int .i64 15) rfl (by kernel_rfl) (by kernel_rfl) (by kernel_rfl) (fun _ _ _ h => h) (Or.inl ⟨by rfl, fun w hSw => by obtain ⟨h1, h2⟩ := hSw; go_simp⟩) HS.out ?_
      simp only [AP]
      refine wpAnyH_take (i := 13) (v := .int .i64 (D : Int)) rfl (by kernel_rfl) (by kernel_rfl) (by kernel_rfl) (fun _ _ _ h => h) (Or.inl ⟨by rfl, fun w hSw => by go_simp⟩) HS.out ?_
      simp only [AP]
      refine wpAnyH_take (i := 14) (v := .int .i64 (D : Int)) rfl (by kernel_rfl) (by kernel_rfl) (by kernel_rfl) (fun _ _ _ h => h) (Or.inl ⟨by rfl, fun w hSw => by go_simp⟩) HS.out ?_
      simp only [AP]
      refine wpAnyH_done (by kernel_rfl) ?_ _
      have s0 := HD2.out.s0
      have m0 : w2.cell? ⟨gm, 0, none⟩ = some (.int .i64 15) := HD2.out.m0
      have fs := frozen_of_row w2 gs 0 _ _ HD2.out.s_
      have hds := HD2.out.setS S1
      have HD3 := Lib.hid hds.1
      have HT3 := Lib.hid (HT2.out.trans hds.2 fun x _ e => e)
      clear hds HS ix e1 e2 e3 e4 hand
      go_upto_region 6 with fail
      generalize w2.setCell ⟨gs, 0, none⟩ (.int .i64 (S1 : Int)) = w3 at *
      clear s0 m0 fs HD2 HT2
      have o0 := HD3.out.o0
      have hgs3 : gs < w3.heap.size := (Array.getElem?_eq_some_iff.1 HD3.out.s_).1
      go_wp2_with (refine wpList_buildInt rfl _ rfl D rfl ?_)
      intro g w4 e4 c4 t4
      have lg : gs < g := by omega
      clear e4
      have HO4 := Lib.hid (t4.own HD3.out.row (fun _ _ e => e)); have T4 := Lib.hid t4
      have hgs4 : gs + 1 ≤ w4.heap.size := by have := t4.size; omega
      clear t4 o0
      go_wp2_with (at_builtin; refine wpList_appendInt rfl _ _ rfl (gs + 1) _ L0.length _ rfl HO4.out HD3.out.low hgs4 g D rfl c4 (by omega) ?_)
      intro ao5 c5 w5 ho5 hl5 t5
      have hlen : (L0 ++ [D]).length = L0.length + 1 := by simp
      have hset := HD3.out.setO (L' := L0 ++ [D]) (ao' := ao5) (cc' := c5) (((Turn.refl (fun k => gs < k) w3).pure T4.out).trans t5 fun x _ e => e) (by rw [hlen]; exact ho5) (by rw [hlen]; exact hl5)
      rw [hlen] at hset
      have ho := (((Turn.refl (fun k => gs < k) w3).pure T4.out).trans t5 fun x _ e => e).obj HD3.out.o_ (by have := hlt; omega)
      have o5 : w5.cell? ⟨go, 0, none⟩ = some (.slice ao' L0.length cc') := by rw [cell_of_row w5 go 0 _ _ _ ho]; rfl
      have f5 := frozen_of_row w5 go 0 _ _ ho
      have HDF := Lib.hid hset.1; have HTF := Lib.hid (HT3.out.trans hset.2 fun x _ e => e)
      clear c4 ho5 hl5 t5 hset ho hlen HO4 T4 HD3 HT3
      go_wp2
      exact ⟨⟨k + 1, ao5, c5, by omega, by first | rfl | trivial, Lib.hid (by rw [HE.out.2.2.2.1, ← HE.out.2.1]; exact HDF.out), HTF⟩, by simp [intOf]; omega⟩
    · obtain rfl : k = many := by omega
      have q1 : ¬ ((k : Int) < k) := by omega
      go_wp2
      exact bodyPost_end (results_none (by kernel_rfl) _ _ _) rfl ⟨rfl, ⟨ao', cc', HD.out⟩, HT.out⟩

set_option maxRecDepth 100000 in
set_option maxHeartbeats 4000000 in
theorem cutd_8 (w : World) (s : List UInt8) (many gk gm go gs p ls S : Nat) (ao : Option Addr) (cc : Nat) (L : List Nat) (h : DigSt w gk gm go gs 8 p ls S ao cc L) (hs : ∀ i, i < many → i * 8 / 8 < s.length) (hm : many ≤ 64) (hS : S ≤ 100000) (hL : L.length ≤ 500) :
    Calls Try.prog 140 #[.string (bstr s), .int .i64 (many : Int), .pointer (some ⟨gk, 0, none⟩), .pointer (some ⟨gm, 0, none⟩), .pointer (some ⟨gs, 0, none⟩), .pointer (some ⟨go, 0, none⟩)] w fun e w' => e = .returned (.tuple #[]) ∧ (∃ ao' cc', DigSt w' gk gm go gs 8 p ls (S + sumV 8 s many) ao' cc' (L ++ (List.range many).map (digV 8 s))) ∧ Turn (fun k => go ≤ k) w w' := by
  have H := Lib.hid h
  have HSL := Lib.hid hs
  have hlt := h.lt
  clear h hs
  go_enter Try.func140, Try.ntmps140
  go_wp2
  go_loopw [8, 9, 10, 12] (fun _ _ _ i wr => ∃ (k : Nat) (ao' : Option Addr) (cc' : Nat), k ≤ many ∧ i = .int .i64 (k : Int) ∧ Hid (DigSt wr gk gm go gs 8 p ls (S + sumV 8 s k) ao' cc' (L ++ (List.range k).map (digV 8 s))) ∧ Hid (Turn (fun k => go ≤ k) w wr)) (fun _ _ _ i _ => many - (intOf i).toNat)
  case atStart => exact ⟨0, ao, cc, by omega, rfl, Lib.hid (by simpa [sumV] using H.out), Lib.hid (Turn.refl _ _)⟩
  case round =>
    obtain ⟨k, ao', cc', hk, rfl, HD, HT⟩ := hrel
    by_cases hlk : k < many
    · have q1 : (k : Int) < many := by omega
      have hi := HSL.out k hlk
      obtain ⟨at_, hat⟩ : ∃ a, a = k * 8 := ⟨_, rfl⟩
      obtain ⟨k8, hk8⟩ : ∃ x, x = at_ / 8 := ⟨_, rfl⟩
      obtain ⟨r, hr⟩ : ∃ r, r = at_ % 8 := ⟨_, rfl⟩
      have hatl : at_ ≤ 1000 := by omega
      rw [← hat, ← hk8] at hi
      have ix := fun W => index_bstr W s (k8 : Int) k8 rfl hi
      have hb := (s.getD k8 0).toNat_lt
      have hd : digV 8 s k = (s.getD k8 0).toNat / 2 ^ (8 - 8 - r) % 2 ^ 8 := by rw [digV, ← hat, ← hk8, ← hr]
      have hrw : r + 8 ≤ 8 := by omega
      obtain ⟨c, hc⟩ : ∃ c, c = (s.getD k8 0).toNat := ⟨_, rfl⟩
      rw [← hc] at ix hb hd
      obtain ⟨t, ht⟩ : ∃ t, t = 8 - 8 - r := ⟨_, rfl⟩
      rw [← ht] at hd
      obtain ⟨y, hy⟩ : ∃ y, y = c / 2 ^ t := ⟨_, rfl⟩
      rw [← hy] at hd
      have hyl : y < 256 := by rw [hy]; exact Nat.lt_of_le_of_lt (Nat.div_le_self _ _) hb
      have hand := and_low y 8 (by omega) hyl
      rw [← hd] at hand
      have hdl := digV_lt 8 s k
      have hsv : sumV 8 s (k + 1) = sumV 8 s k + (256 - 1 - digV 8 s k) := rfl
      have hsl := sumV_le 8 s k
      have hra : L ++ (List.range (k + 1)).map (digV 8 s) = (L ++ (List.range k).map (digV 8 s)) ++ [digV 8 s k] := by rw [List.range_succ, List.map_append, List.append_assoc]; rfl
      obtain ⟨D, hD⟩ : ∃ D, D = digV 8 s k := ⟨_, rfl⟩
      rw [← hD] at hand hdl hsv hra
      obtain ⟨S0, hS0⟩ : ∃ S0, S0 = S + sumV 8 s k := ⟨_, rfl⟩
      obtain ⟨S1, hS1⟩ : ∃ S1, S1 = S + sumV 8 s (k + 1) := ⟨_, rfl⟩
      obtain ⟨L0, hL0⟩ : ∃ L0, L0 = L ++ (List.range k).map (digV 8 s) := ⟨_, rfl⟩
      have hL0l : L0.length ≤ 600 := by rw [hL0]; simp; omega
      have hS1e : S1 = S0 + (255 - D) := by omega
      rw [← hS0, ← hL0] at HD
      rw [← hL0] at hra
      have hSb : S0 ≤ 200000 := by omega
      have e1 : (at_ : Int).tdiv 8 = (k8 : Int) := by rw [Int.tdiv_eq_ediv_of_nonneg (by omega)]; omega
      have e2 : (at_ : Int).tmod 8 = (r : Int) := by rw [Int.tmod_eq_emod_of_nonneg (by omega)]; omega
      have e3 : (c : Int) / 2 ^ t = (y : Int) := by rw [hy, Int.natCast_ediv, Int.natCast_pow]; rfl
      have e4 : (k : Int) * 8 = (at_ : Int) := by omega
      have wa : IntKind.i64.wrap (at_ : Int) = at_ := IntWalk.i64_in _ (by omega)
      have wk : IntKind.i64.wrap (k8 : Int) = k8 := IntWalk.i64_in _ (by omega)
      have wr_ : IntKind.i64.wrap (r : Int) = r := IntWalk.i64_in _ (by omega)
      have wc : IntKind.i64.wrap (c : Int) = c := IntWalk.i64_in _ (by omega)
      have wy : IntKind.i64.wrap (y : Int) = y := IntWalk.i64_in _ (by omega)
      have wt : IntKind.i64.wrap (t : Int) = t := IntWalk.i64_in _ (by omega)
      have x1 : IntKind.i64.wrap 0 = 0 := IntWalk.i64_in _ (by omega)
      have x2 : IntKind.i64.wrap (0 - (r : Int)) = (t : Int) := by rw [IntWalk.i64_in _ (by omega)]; omega
      have x3 : IntKind.i64.wrap (-(r : Int)) = (-(r : Int)) := IntWalk.i64_in _ (by omega)
      have x4 : -(r : Int) = (t : Int) := by omega
      have hand : bits .and .i64 (y : Int) 255 = (D : Int) := hand
      have i1 : IntKind.i64.wrap ((k : Int) + 1) = ((k + 1 : Nat) : Int) := by rw [IntWalk.i64_in _ (by omega)]; omega
      have i2 : IntKind.i64.wrap (255 - (D : Int)) = ((255 - D : Nat) : Int) := by rw [IntWalk.i64_in _ (by omega)]; omega
      have i3 : IntKind.i64.wrap ((S0 : Int) + ((255 - D : Nat) : Int)) = (S1 : Int) := by rw [IntWalk.i64_in _ (by omega)]; omega
      have t8 : t ≤ 8 := by omega
      have HE := Lib.hid (And.intro hS0 (And.intro hS1 (And.intro hL0 (And.intro hra hS1e))))
      clear hat hk8 hr hd hc ht hy hsv hsl hD hS0 hS1 hL0 hra hS1e hrw
      have c0 := HD.out.k0
      have m0 : wr.cell? ⟨gm, 0, none⟩ = some (.int .i64 255) := HD.out.m0
      have s0 := HD.out.s0
      have o0 := HD.out.o0
      have c0 : wr.cell? ⟨gk, 0, none⟩ = some (.int .i64 8) := c0
      go_wp2_with fail
      refine wp_region_held_drew (S := fun w' => w'.cell? ⟨gk, 0, none⟩ = some (.int .i64 8) ∧ w'.cell? ⟨gm, 0, none⟩ = some (.int .i64 255)) (by kernel_rfl) (show wr.drew.cell? ⟨gk, 0, none⟩ = some (.int .i64 8) ∧ wr.drew.cell? ⟨gm, 0, none⟩ = some (.int .i64 255) from ⟨c0, m0⟩) (fun hHeld => ?_)
      have HS := Lib.hid hHeld
      have HD2 := Lib.hid (HD.out.pure ((Turn.refl (fun _ => False) wr).drew)); have HT2 := Lib.hid HT.out.drew
      clear hHeld c0 m0 s0 o0 HD HT
      generalize wr.drew = w2 at *
      refine wpAnyH_take (i := 0) (v := .string (bstr s)) rfl (by kernel_rfl) (by kernel_rfl) (by kernel_rfl) (fun _ _ _ h => h) (Or.inl ⟨by rfl, fun w hSw => by go_simp⟩) HS.out ?_
      simp only [AP]
      refine wpAnyH_take (i := 1) (v := .int .i64 (at_ : Int)) rfl (by kernel_rfl) (by kernel_rfl) (by kernel_rfl) (fun _ _ _ h => h) (Or.inl ⟨by rfl, fun w hSw => by go_simp⟩) HS.out ?_
      simp only [AP]
      refine wpAnyH_take (i := 2) (v := .int .i64 (k8 : Int)) rfl (by kernel_rfl) (by kernel_rfl) (by kernel_rfl) (fun _ _ _ h => h) (Or.inl ⟨by rfl, fun w hSw => by go_simp⟩) HS.out ?_
      simp only [AP]
      refine wpAnyH_take (i := 3) (v := .int .u8 (c : Int)) rfl (by kernel_rfl) (by kernel_rfl) (by kernel_rfl) (fun _ _ _ h => h) (Or.inl ⟨by rfl, fun w hSw => by go_simp⟩) HS.out ?_
      simp only [AP]
      refine wpAnyH_take (i := 4) (v := .int .i64 (c : Int)) rfl (by kernel_rfl) (by kernel_rfl) (by kernel_rfl) (fun _ _ _ h => h) (Or.inl ⟨by rfl, fun w hSw => by go_simp⟩) HS.out ?_
      simp only [AP]
      refine wpAnyH_take (i := 5) (v := .pointer (some ⟨gk, 0, none⟩)) rfl (by kernel_rfl) (by kernel_rfl) (by kernel_rfl) (fun _ _ _ h => h) (Or.inl ⟨by rfl, fun w hSw => by go_simp⟩) HS.out ?_
      simp only [AP]
      refine wpAnyH_take (i := 6) (v := .int .i64 8) rfl (by kernel_rfl) (by kernel_rfl) (by kernel_rfl) (fun _ _ _ h => h) (Or.inl ⟨by rfl, fun w hSw => by obtain ⟨h1, h2⟩ := hSw; go_simp⟩) HS.out ?_
      simp only [AP]
      refine wpAnyH_take (i := 7) (v := .int .i64 0) rfl (by kernel_rfl) (by kernel_rfl) (by kernel_rfl) (fun _ _ _ h => h) (Or.inl ⟨by rfl, fun w hSw => by go_simp⟩) HS.out ?_
      simp only [AP]
      refine wpAnyH_take (i := 8) (v := .int .i64 (at_ : Int)) rfl (by kernel_rfl) (by kernel_rfl) (by kernel_rfl) (fun _ _ _ h => h) (Or.inl ⟨by rfl, fun w hSw => by go_simp⟩) HS.out ?_
      simp only [AP]
      refine wpAnyH_take (i := 9) (v := .int .i64 (r : Int)) rfl (by kernel_rfl) (by kernel_rfl) (by kernel_rfl) (fun _ _ _ h => h) (Or.inl ⟨by rfl, fun w hSw => by go_simp⟩) HS.out ?_
      simp only [AP]
      refine wpAnyH_take (i := 10) (v := .int .i64 (t : Int)) rfl (by kernel_rfl) (by kernel_rfl) (by kernel_rfl) (fun _ _ _ h => h) (Or.inl ⟨by rfl, fun w hSw => by go_simp⟩) HS.out ?_
      simp only [AP]
      refine wpAnyH_take (i := 11) (v := .int .i64 (y : Int)) rfl (by kernel_rfl) (by kernel_rfl) (by kernel_rfl) (fun _ _ _ h => h) (Or.inl ⟨by rfl, fun w hSw => by go_simp⟩) HS.out ?_
      simp only [AP]
      refine wpAnyH_take (i := 12) (v := .int .i64 255) rfl (by kernel_rfl) (by kernel_rfl) (by kernel_rfl) (fun _ _ _ h => h) (Or.inl ⟨by rfl, fun w hSw => by obtain ⟨h1, h2⟩ := hSw; go_simp⟩) HS.out ?_
      simp only [AP]
      refine wpAnyH_take (i := 13) (v := .int .i64 (D : Int)) rfl (by kernel_rfl) (by kernel_rfl) (by kernel_rfl) (fun _ _ _ h => h) (Or.inl ⟨by rfl, fun w hSw => by go_simp⟩) HS.out ?_
      simp only [AP]
      refine wpAnyH_take (i := 14) (v := .int .i64 (D : Int)) rfl (by kernel_rfl) (by kernel_rfl) (by kernel_rfl) (fun _ _ _ h => h) (Or.inl ⟨by rfl, fun w hSw => by go_simp⟩) HS.out ?_
      simp only [AP]
      refine wpAnyH_done (by kernel_rfl) ?_ _
      have s0 := HD2.out.s0
      have m0 : w2.cell? ⟨gm, 0, none⟩ = some (.int .i64 255) := HD2.out.m0
      have fs := frozen_of_row w2 gs 0 _ _ HD2.out.s_
      have hds := HD2.out.setS S1
      have HD3 := Lib.hid hds.1
      have HT3 := Lib.hid (HT2.out.trans hds.2 fun x _ e => e)
      clear hds HS ix e1 e2 e3 e4 hand
      go_upto_region 6 with fail
      generalize w2.setCell ⟨gs, 0, none⟩ (.int .i64 (S1 : Int)) = w3 at *
      clear s0 m0 fs HD2 HT2
      have o0 := HD3.out.o0
      have hgs3 : gs < w3.heap.size := (Array.getElem?_eq_some_iff.1 HD3.out.s_).1
      go_wp2_with (refine wpList_buildInt rfl _ rfl D rfl ?_)
      intro g w4 e4 c4 t4
      have lg : gs < g := by omega
      clear e4
      have HO4 := Lib.hid (t4.own HD3.out.row (fun _ _ e => e)); have T4 := Lib.hid t4
      have hgs4 : gs + 1 ≤ w4.heap.size := by have := t4.size; omega
      clear t4 o0
      go_wp2_with (at_builtin; refine wpList_appendInt rfl _ _ rfl (gs + 1) _ L0.length _ rfl HO4.out HD3.out.low hgs4 g D rfl c4 (by omega) ?_)
      intro ao5 c5 w5 ho5 hl5 t5
      have hlen : (L0 ++ [D]).length = L0.length + 1 := by simp
      have hset := HD3.out.setO (L' := L0 ++ [D]) (ao' := ao5) (cc' := c5) (((Turn.refl (fun k => gs < k) w3).pure T4.out).trans t5 fun x _ e => e) (by rw [hlen]; exact ho5) (by rw [hlen]; exact hl5)
      rw [hlen] at hset
      have ho := (((Turn.refl (fun k => gs < k) w3).pure T4.out).trans t5 fun x _ e => e).obj HD3.out.o_ (by have := hlt; omega)
      have o5 : w5.cell? ⟨go, 0, none⟩ = some (.slice ao' L0.length cc') := by rw [cell_of_row w5 go 0 _ _ _ ho]; rfl
      have f5 := frozen_of_row w5 go 0 _ _ ho
      have HDF := Lib.hid hset.1; have HTF := Lib.hid (HT3.out.trans hset.2 fun x _ e => e)
      clear c4 ho5 hl5 t5 hset ho hlen HO4 T4 HD3 HT3
      go_wp2
      exact ⟨⟨k + 1, ao5, c5, by omega, by first | rfl | trivial, Lib.hid (by rw [HE.out.2.2.2.1, ← HE.out.2.1]; exact HDF.out), HTF⟩, by simp [intOf]; omega⟩
    · obtain rfl : k = many := by omega
      have q1 : ¬ ((k : Int) < k) := by omega
      go_wp2
      exact bodyPost_end (results_none (by kernel_rfl) _ _ _) rfl ⟨rfl, ⟨ao', cc', HD.out⟩, HT.out⟩
end Go.Proofs.Ytcfbmbhkdicpfaa
