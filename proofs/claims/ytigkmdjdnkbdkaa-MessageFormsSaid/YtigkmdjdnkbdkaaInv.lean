/- A region that draws its order, gone through by what holds behind every operation: each operation once, whatever the order. -/
import Derived.Test.YtigkmdjdnkbdkaaGrow
namespace Go.Proofs.Ytigkmdjdnkbdkaa
open Go.RowKit

/-- Behind one operation K holds; all other exits are Q's. -/
def Qn (Q : Exit → Act → World → Prop) (K : Act → World → Prop) : Exit → Act → World → Prop
  | .normal => K
  | .exit i => Q (.exit i)
  | .goto l => Q (.goto l)
  | .ret => Q .ret
  | .panic c => Q (.panic c)
  | .outgrown => Q .outgrown
/-- Does this one wait for number k? -/
def waitsOn (md : Region.Mode) (o : Oper) (k : Nat) : Bool := o.after.any fun e => Region.binds md e && e.on == k
/-- Each one waits but for elder ones. -/
def elderB (md : Region.Mode) (ops : Array Oper) : Bool := (List.range ops.size).all fun i => ((ops[i]?).map fun o => o.after.all fun e => !(Region.binds md e) || decide (e.on < i)).getD true
section
variable {P : Program} {ops : Array Oper} {Q : Exit → Act → World → Prop} {md : Region.Mode}
theorem wpOp_of_list {i : Nat} {o : Oper} {K : Act → World → Prop} {a : Act} {w : World} (hi : ops[i]? = some o) (h : wpList P ops (Qn Q K) [o] a w) : wpOp P ops Q i K a w := by
  unfold wpOp
  simp only [hi]
  rw [wpList] at h
  split
  · rename_i hw
    rw [if_pos hw] at h
    rcases h with h | ⟨h1, h2⟩
    · left
      unfold Oper.wp at h ⊢
      generalize (execOp a.eval o).run P w = r at h ⊢
      cases r with
      | ok n w' =>
        cases n <;> simp only [Oper.upon] at h ⊢ <;>
          first
            | exact h
            | exact Calls.mono h (fun e w'' he => by cases e <;> exact he)
            | exact Rows.mono h (fun _ _ he => he)
      | halt x w' => cases x <;> simp only [Oper.upon] at h ⊢ <;> exact h
    · exact .inr ⟨h1, h2⟩
  · rename_i hw
    rw [if_neg hw] at h
    exact h
theorem count_set {l : Array Bool} {i : Nat} (h : l.getD i true = false) {fuel : Nat} (hc : l.toList.count false ≤ fuel + 1) : (l.setIfInBounds i true).toList.count false ≤ fuel := by
  have hi : i < l.size := by
    rcases Nat.lt_or_ge i l.size with h' | h'
    · exact h'
    · simp [Array.getElem?_eq_none h'] at h
  have hv : l.toList[i]'(by simpa using hi) = false := by simpa [hi] using h
  have hp : 0 < l.toList.count false := List.count_pos_iff.2 (by rw [← hv]; exact List.getElem_mem _)
  rw [Array.toList_setIfInBounds, List.count_set (by simpa using hi), hv]
  have e1 : ((false : Bool) == false) = true := rfl
  have e2 : ((true : Bool) == false) = false := rfl
  rw [e1, e2, if_pos rfl, if_neg (by decide)]
  omega
theorem all_listed (hlow : elderB md ops = true) {l : Array Bool} (hs : l.size = ops.size) (hr : Region.ready md ops l = []) : ∀ i, i < ops.size → l.getD i false = true := by
  intro i
  induction i using Nat.strongRecOn with
  | _ i ih =>
    intro hi
    cases hl : l.getD i false with
    | true => rfl
    | false =>
      exfalso
      have hmem : i ∈ Region.ready md ops l := by
        refine mem_ready.2 ⟨?_, ops[i], by simp [hi], fun e he hb => ?_⟩
        · have : i < l.size := by omega
          simpa [this] using hl
        · have h1 := List.all_eq_true.1 hlow i (List.mem_range.2 hi)
          have h2 : ops[i]? = some ops[i] := by simp [hi]
          rw [h2] at h1
          simp only [Option.map_some, Option.getD_some] at h1
          have h3 := Array.all_eq_true_iff_forall_mem.1 h1 e he
          rw [hb] at h3
          have h4 : e.on < i := by simpa using h3
          exact ih _ h4 (by omega)
      rw [hr] at hmem
      cases hmem
theorem wpAny_inv (F : Array Bool → Act → World → Prop) (hlow : elderB md ops = true)
    (hstep : ∀ (i : Nat) (o : Oper), ops[i]? = some o → ∀ (l : Array Bool) (a : Act) (w : World), l.getD i true = false → (∀ k, waitsOn md o k = true → l.getD k false = true) → l.size = ops.size → F l a w → wpList P ops (Qn Q fun a' w' => F (l.setIfInBounds i true) a' w') [o] a w)
    (hend : ∀ (l : Array Bool) (a : Act) (w : World), (∀ i, i < ops.size → l.getD i false = true) → F l a w → Q .normal a w) :
    ∀ (fuel : Nat) (l : Array Bool) (a : Act) (w : World), l.size = ops.size → l.toList.count false ≤ fuel → F l a w → wpAny P md ops Q fuel l a w
  | 0, l, a, w, hs, hc, h => by
    have hr : Region.ready md ops l = [] := by
      rw [List.eq_nil_iff_forall_not_mem]
      intro i hi
      have h1 := (mem_ready.1 hi).1
      have hlt : i < l.size := by
        rcases Nat.lt_or_ge i l.size with h' | h'
        · exact h'
        · simp [Array.getElem?_eq_none h'] at h1
      have hv : l.toList[i]'(by simpa using hlt) = false := by simpa [hlt] using h1
      have hp : 0 < l.toList.count false := List.count_pos_iff.2 (by rw [← hv]; exact List.getElem_mem _)
      omega
    exact ⟨hr, hend l a w (all_listed hlow hs hr) h⟩
  | fuel + 1, l, a, w, hs, hc, h => by
    refine ⟨fun hr => hend l a w (all_listed hlow hs hr) h, fun i hi => ?_⟩
    obtain ⟨h0, o, ho, hall⟩ := mem_ready.1 hi
    refine wpOp_mono (fun a' w' h' => wpAny_inv F hlow hstep hend fuel _ a' w' (by simpa using hs) (count_set h0 hc) h') (wpOp_of_list ho (hstep i o ho l a w h0 (fun k hk => ?_) hs h))
    obtain ⟨e, he, hb⟩ := Array.any_eq_true'.1 hk
    simp only [Bool.and_eq_true, beq_iff_eq] at hb
    rw [← hb.2]
    exact hall e he hb.1
/-- A region that draws. -/
theorem wp_region_inv {id : Nat} {a : Act} {w : World} (F : Array Bool → Act → World → Prop) (hm : P.follows .mixedOrders = true) (hlow : elderB .any ops = true) (h0 : F (Array.replicate ops.size false) a w.drew)
    (hstep : ∀ (i : Nat) (o : Oper), ops[i]? = some o → ∀ (l : Array Bool) (a : Act) (w : World), l.getD i true = false → (∀ k, waitsOn .any o k = true → l.getD k false = true) → l.size = ops.size → F l a w → wpList P ops (Qn Q fun a' w' => F (l.setIfInBounds i true) a' w') [o] a w)
    (hend : ∀ (l : Array Bool) (a : Act) (w : World), (∀ i, i < ops.size → l.getD i false = true) → F l a w → Q .normal a w) : (Code.region id ops true).wp P Q a w :=
  wp_region_any hm (wpAny_inv F hlow hstep hend _ _ _ _ (by simp) (by simp) h0)
/-- The same; what is said hangs on the values that the slots had ahead. -/
theorem wp_region_invA {id : Nat} {a : Act} {w : World} (G : Act → Array Bool → Act → World → Prop) (hm : P.follows .mixedOrders = true) (hlow : elderB .any ops = true) (h0 : G a (Array.replicate ops.size false) a w.drew)
    (hstep : ∀ (i : Nat) (o : Oper), ops[i]? = some o → ∀ (l : Array Bool) (a' : Act) (w : World), l.getD i true = false → (∀ k, waitsOn .any o k = true → l.getD k false = true) → l.size = ops.size → G a l a' w → wpList P ops (Qn Q fun a' w' => G a (l.setIfInBounds i true) a' w') [o] a' w)
    (hend : ∀ (l : Array Bool) (a' : Act) (w : World), (∀ i, i < ops.size → l.getD i false = true) → G a l a' w → Q .normal a' w) : (Code.region id ops true).wp P Q a w :=
  wp_region_inv (G a) hm hlow h0 hstep hend
/-- What is listed behind a further one. -/
theorem got_set {l : Array Bool} {i k : Nat} (h : (l.setIfInBounds i true).getD k false = true) : k = i ∨ l.getD k false = true := by
  by_cases hk : i = k
  · exact .inl hk.symm
  · rw [getD_set_ne false hk] at h; exact .inr h
theorem not_got {l : Array Bool} {i : Nat} {p : Prop} (h : l.getD i true = false) (h2 : l.getD i false = true) : p := by
  exfalso
  rcases Nat.lt_or_ge i l.size with h' | h'
  · simp [h'] at h h2; rw [h] at h2; cases h2
  · simp [Array.getElem?_eq_none h'] at h
theorem none_got {n k : Nat} {p : Prop} (h : (Array.replicate n false).getD k false = true) : p := by
  exfalso
  by_cases hk : k < n
  · simp [hk] at h
  · simp [hk] at h
end
end Go.Proofs.Ytigkmdjdnkbdkaa
