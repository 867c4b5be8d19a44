/- Rows of bytes that began as a text: what lies behind their cells is marked. -/
import Derived.Test.YtcfbmbhkdicpfaaSha0
import Derived.Deep.AppendLies
import Derived.Deep.DeepCutAuto
import Derived.Deep.RegionHeld3
import Derived.Great.Walk
namespace Go.Proofs.Ytcfbmbhkdicpfaa
open Go.RowKit

/-- Owned; a mark, if there is one, lies behind the row's cells. -/
def ownsA (w : World) (e : TypeId) (v : Value) (n : Nat) (l : List UInt8) : Prop :=
  l.length = n ∧ ∃ g cap cur fz, v = .slice (some ⟨g, 0, none⟩) n cap ∧ w.heap[g]? = some (.cells cur e fz) ∧ (∀ j, j < cur.size → ¬ (fz.1 ≤ j ∧ j < fz.2)) ∧ n ≤ cap ∧ cap ≤ maxLen ∧ cur.size = cap ∧ cur.toList.take n = u8s l
theorem ownsA_bytes (w : World) (e : TypeId) (l : List UInt8) (hl : l.length ≤ maxLen) : ownsA (Lib.bytesWorld w e (bstr l)) e (.slice (some ⟨w.heap.size, 0, none⟩) l.length (grownCap w l.length 0 e)) l.length l := by
  have hge := grownCap_ge w l.length 0 e
  have hcm := grownCap_le_maxLen w l.length 0 e hl
  have hsz : (Lib.bytesCells w e (bstr l)).size = grownCap w l.length 0 e := by
    have hb : (bstr l).data.size = l.length := by rw [← bstr_size]; rfl
    simp only [Lib.bytesCells, Array.size_append, Array.size_map, Array.size_replicate, bstr_size, hb]
    omega
  refine ⟨rfl, w.heap.size, _, _, _, rfl, Lib.bytesWorld_at_new w e (bstr l), fun j hj => by rintro ⟨h1, h2⟩; simp only at h1; omega, hge, hcm, hsz, ?_⟩
  simp only [Lib.bytesCells, Array.toList_append, Array.toList_map, bstr]
  rw [List.take_append_of_le_length (by simp), List.take_of_length_le (by simp)]
  rfl
theorem Turn.ownA {S : Nat → Prop} {w w' : World} (h : Turn S w w') {e : TypeId} {v : Value} {n : Nat} {l : List UInt8} (ho : ownsA w e v n l) (hn : ∀ k, v.ownBlock = some k → ¬ S k) : ownsA w' e v n l := by
  obtain ⟨h1, g, cap, cur, fz, hv, hh, r⟩ := ho
  exact ⟨h1, g, cap, cur, fz, hv, h.obj hh (hn g (by rw [hv]; rfl)), r⟩
theorem ownsA_shape {w : World} {e : TypeId} {v : Value} {n : Nat} {l : List UInt8} (ho : ownsA w e v n l) : ∃ g cap, v = .slice (some ⟨g, 0, none⟩) n cap ∧ ∀ i, i < n → w.cell? ⟨g, 0 + i, none⟩ = some (u8 (l.getD i 0)) := by
  obtain ⟨h1, g, cap, cur, fz, hv, hh, hfz, hnc, hcm, hcs, htake⟩ := ho
  refine ⟨g, cap, hv, fun i hi => ?_⟩
  rw [Nat.zero_add, cell_of_row w g i cur e fz hh]
  have : (cur.toList.take n)[i]? = some (u8 (l.getD i 0)) := by rw [htake]; simp [u8s, List.getD, h1, hi]
  rw [List.getElem?_take_of_lt hi] at this
  simpa using this

theorem append_ownA {P : Program} (w : World) (t tx ty e : TypeId) (i : TypeInfo) (z : Value) (ht : P.underlying t = some (.slice e)) (hi : P.info? e = some i) (hz : i.zero = some z)
    (hsize : i.size = 1) (hby : i.bytes = 1) (hzs : z.cells.size = 1) (v : Value) (n : Nat) (l : List UInt8) (hown : ownsA w e v n l) (x : Value) (m : Nat) (news : List UInt8) (hs : Src P 1 tx x m (u8s news) w)
    (hbytes : n + m ≤ 140737488355328) :
    ∃ v' w', (Builtin.append_ #[t, tx] ty #[v, x]).run P w = .ok v' w' ∧ ownsA w' e v' (n + m) (l ++ news) ∧ Turn (fun k => v.ownBlock = some k) w w' ∧
      (v'.ownBlock = v.ownBlock ∨ v'.ownBlock = some w.heap.size) := by
  obtain ⟨h1, g, cap, cur, fz, hv, hg, hfz, hnc, hcm, hcs, htake⟩ := hown
  have hnl : news.length = m := by have := hs.newsLen; rw [u8s_length] at this; omega
  have hlen : (l ++ news).length = n + m := by rw [List.length_append, h1, hnl]
  have hmax : n + m ≤ maxLen := by simp only [maxLen]; omega
  have hcell : ∀ j u, (u8s l)[j]? = some u → w.cell? ((⟨g, 0, none⟩ : Addr).add j) = some u := by
    intro j u hu
    rw [Addr.add_mid, Nat.zero_add, cell_of_row w g j cur e fz hg]
    rw [← htake, List.getElem?_take] at hu
    split at hu
    · simpa using hu
    · cases hu
  by_cases hroom : n + m ≤ cap
  · have hsz : n * i.size + (u8s news).length ≤ cur.size := by rw [u8s_length, hnl, hcs, hsize]; omega
    have hr := run_append_room_src (P := P) w t tx ty e i ht hi g 0 n cap x m (u8s news) (by rw [hsize]; exact hs) hroom
      (fun j hj => by rw [cell_of_row w g _ cur e fz hg]; simp; rw [u8s_length] at hsz hj; omega) (fun j hj => by
        have := hfz (0 + n * i.size + j) (by rw [u8s_length] at hsz hj; omega)
        simp only [World.frozen?, hg]
        rw [Bool.and_eq_false_iff]
        simp only [decide_eq_false_iff_not]
        omega)
    have hh := setCells_heap g (u8s news) (0 + n * i.size) w cur e fz hg (by omega)
    refine ⟨_, _, by rw [hv]; exact hr, ⟨hlen, g, cap, _, fz, rfl, hh, ?_, hroom, hcm, ?_, ?_⟩, ⟨World.os_setCells _ _ _ _, setCells_tape _ _ _ _, World.output_setCells _ _ _ _, by rw [setCells_size]; exact Nat.le_refl _, ?_⟩, .inl (by rw [hv]; rfl)⟩
    · intro j hj
      refine hfz j ?_
      simp only [List.size_toArray, List.length_append, List.length_take, List.length_drop, Array.length_toList, u8s_length] at hj
      rw [u8s_length] at hsz
      omega
    · simp only [List.size_toArray, List.length_append, List.length_take, List.length_drop, Array.length_toList, u8s_length]
      rw [u8s_length] at hsz
      omega
    · simp only [Nat.zero_add, hsize, Nat.mul_one]
      rw [htake, ← u8s_app]
      rw [List.take_append_of_le_length (by rw [u8s_length, hlen]; omega), List.take_of_length_le (by rw [u8s_length, hlen]; omega)]
    · intro k hk hn
      exact World.heap_setCells_other w g _ _ hk (fun e => hn (by rw [hv, e]; rfl))
  · have hf := run_firstCells_some (P := P) w.drew i.size n ⟨g, 0, none⟩ n cap (u8s l) (by rw [u8s_length, h1, hsize]; omega) (by simpa using hcell)
    have hr := run_append_grow_src (P := P) w t tx ty e i z ht hi hz (some ⟨g, 0, none⟩) n cap (u8s l) hf x m (u8s news) (by rw [hsize]; exact hs) (by omega) (by omega) (growslice_fits (by omega) (by rw [hby]; omega))
    have hge := grownCap_ge w (n + m) cap e
    have hcm2 : grownCap w (n + m) cap e ≤ maxLen := grownCap_le_maxLen w (n + m) cap e hmax
    refine ⟨_, _, by rw [hv]; exact hr, ⟨hlen, w.heap.size, _, _, (0, 0), rfl, heap_alloc_new w.drew _, fun j _ h => by omega, hge, hcm2, ?_, ?_⟩, (Turn.refl _ _).drew.alloc _, .inr rfl⟩
    · simp only [Array.size_append, List.size_toArray, size_zeroCells, hzs, List.length_append, u8s_length, h1, hnl]
      omega
    · simp only [Array.toList_append]
      rw [← u8s_app, List.take_append_of_le_length (by simp [u8s_length]; omega), List.take_of_length_le (by simp [u8s_length]; omega)]

theorem infoB : (Try.prog.info? 5).map (fun i => (i.zero, i.size, i.bytes)) = some (some (.int .u8 0), 1, 1) := by kernel_rfl
theorem partsB : ∃ i, Hid (Try.prog.info? 5 = some i) ∧ i.zero = some (.int .u8 0) ∧ i.size = 1 ∧ i.bytes = 1 ∧ (Value.int .u8 0).cells.size = 1 := by
  have h := infoB
  cases hi : Try.prog.info? 5 with
  | none => rw [hi] at h; simp at h
  | some i =>
    rw [hi] at h
    simp only [Option.map_some, Option.some.injEq, Prod.mk.injEq] at h
    exact ⟨i, Lib.hid rfl, h.1, h.2.1, h.2.2, by simp [Value.cells]⟩
/-- A text behind such a row, where the operation's order is forced. -/
theorem wp_appendA {w : World} {o : Oper} {a : Act} {K : Act → World → Prop} {Q : Exit → Act → World → Prop} (sl x : Operand)
    (ho : o.op = .call { callee := .builtin .append, args := #[sl, x], argTypes := #[65, 9] }) (N : Nat) (v : Value) (n : Nat) (l : List UInt8) (hv : a.eval sl = v) (hown : ownsA w 5 v n l) (hlow : ∀ q, v.ownBlock = some q → N ≤ q) (hN : N ≤ w.heap.size)
    (news : List UInt8) (hx : a.eval x = .string (bstr news)) (hn : n + news.length ≤ 100000)
    (h : ∀ g c w', ownsA w' 5 (.slice (some ⟨g, 0, none⟩) (n + news.length) c) (n + news.length) (l ++ news) → N ≤ g → Turn (fun k => N ≤ k) w w' → (∀ k, v.ownBlock ≠ some k → k < w.heap.size → k ≠ g) → (∀ k ob, v.ownBlock ≠ some k → w.heap[k]? = some ob → w'.heap[k]? = some ob) → K (a.put o.dst (.slice (some ⟨g, 0, none⟩) (n + news.length) c)) w') : Oper.wp Try.prog o a w K Q := by
  obtain ⟨i, hi, h1, h2, h3, h4⟩ := partsB
  have hsrc : Src Try.prog 1 9 (.string (bstr news)) news.length (u8s news) w := by
    have := Src.ofString (P := Try.prog) w (tx := 9) Try.underlying9 (bstr news)
    rw [bstr_size] at this
    rw [show u8s news = byteCells (bstr news) from by rw [byteCells_u8s, bstr_data]]
    exact this
  obtain ⟨v', w', hr, hb1, hb2, hb3⟩ := append_ownA (P := Try.prog) w 65 9 o.type 5 i _ Try.underlying65 hi.out h1 h2 h3 h4 v n l hown _ news.length news hsrc (by omega)
  unfold Oper.wp execOp
  simp only [ho, resolve, invoke, builtin, Sem.run_bind, Sem.run_pure, Result.andThen_ok, List.map_toArray, List.map_cons, List.map_nil, hv, hx, hr]
  obtain ⟨g, c, rfl, _⟩ := ownsA_shape hb1
  refine h g c w' hb1 ?_ (hb2.mono fun q _ hq => hlow q hq) (fun k hk hlt hkg => ?_) (fun k ob hk hob => hb2.obj hob hk)
  · rcases hb3 with e | e
    · exact hlow g (by rw [← e]; rfl)
    · have := Option.some.inj e; simp only at this; omega
  · subst hkg
    rcases hb3 with e | e
    · exact hk (by rw [← e]; rfl)
    · have := Option.some.inj e; simp only at this; omega
end Go.Proofs.Ytcfbmbhkdicpfaa
