/- A region that draws its order: calls that only lay new blocks are taken first like reads. -/
import Derived.Test.YtigkmdjdnkbdkaaBase
import Derived.OrdersHeld
namespace Go.Proofs.Ytigkmdjdnkbdkaa
open Go.RowKit

/-- A block that was made here may be written. -/
theorem Turn.newer {w a b : World} {g : Nat} (h : Pure w a) (t : Turn (fun k => k = g) a b) (hg : w.heap.size ≤ g) : Pure w b := h.trans t fun _ hx e => absurd (e ▸ hx) (Nat.not_lt.2 hg)
/-- The operation answers v and lays new blocks at most. -/
def AnsR (P : Program) (v : Value) (w : World) : Result Next → Prop
  | .ok (.value u) w' => u = v ∧ Pure w w'
  | .ok (.enter f args) w' => Pure w w' ∧ Calls P f args w' fun e w'' => e = .returned v ∧ Pure w' w''
  | _ => False
def AnsIf (P : Program) (ops : Array Oper) (S : World → Prop) (o : Oper) (v : Value) (a : Act) : Prop :=
  (Region.wanted o (yielded ops a.tmps) = true ∧ ∀ w, S w → AnsR P v w ((execOp a.eval o).run P w)) ∨
  (Region.wanted o (yielded ops a.tmps) = false ∧ v = undef)
/-- What is known of the world, and of what the slots point to, stays where new blocks are laid. -/
structure Grow (S : World → Prop) (T : Array Bool → Act → World → Prop) : Prop where
  world : ∀ w w', S w → Pure w w' → S w'
  act : ∀ l a w w', T l a w → Pure w w' → T l a w'
/-- Blocks that lie as they lay. -/
def Held (L : List (Nat × Obj)) (w : World) : Prop := ∀ p ∈ L, w.heap[p.1]? = some p.2
theorem Held.pure {L : List (Nat × Obj)} {w w' : World} (h : Held L w) (t : Pure w w') : Held L w' := fun p hp => t.obj (h p hp) (fun e => e)
theorem Grow.held (w0 : World) (L : List (Nat × Obj)) : Grow (fun w => Pure w0 w ∧ Held L w) (fun _ _ _ => True) := ⟨fun _ _ h t => ⟨h.1.pure t, h.2.pure t⟩, fun _ _ _ _ _ _ => trivial⟩
theorem held_nil (w : World) : Held [] w := fun _ h => nomatch h
theorem held_cons {w : World} {g : Nat} {o : Obj} {L : List (Nat × Obj)} (h : w.heap[g]? = some o) (hL : Held L w) : Held ((g, o) :: L) w := fun p hp => by
  rcases List.mem_cons.1 hp with rfl | hp
  · exact h
  · exact hL p hp
theorem Held.head {w : World} {g : Nat} {o : Obj} {L : List (Nat × Obj)} (h : Held ((g, o) :: L) w) : w.heap[g]? = some o := h (g, o) (List.mem_cons_self ..)
theorem Held.tail {w : World} {p : Nat × Obj} {L : List (Nat × Obj)} (h : Held (p :: L) w) : Held L w := fun q hq => h q (List.mem_cons_of_mem _ hq)

section
variable {P : Program} {ops : Array Oper} {Q : Exit → Act → World → Prop} {md : Region.Mode} {S : World → Prop} {T : Array Bool → Act → World → Prop}

theorem AnsIf.ofYields {o : Oper} {v : Value} {a : Act} (h : YieldsIf P ops S o v a) : AnsIf P ops S o v a := by
  rcases h with ⟨hw, hv⟩ | h
  · exact .inl ⟨hw, fun w hS => by rw [hv w hS]; exact ⟨rfl, Turn.refl _ _⟩⟩
  · exact .inr h
theorem AnsIf.wpOp {i : Nat} {o : Oper} {v : Value} {a : Act} (hi : ops[i]? = some o) (hy : AnsIf P ops S o v a)
    {K : Act → World → Prop} {w : World} (hS : S w) (h : ∀ w', Pure w w' → K (a.put o.dst v) w') : wpOp P ops Q i K a w := by
  unfold Go.wpOp
  simp only [hi]
  rcases hy with ⟨hw, hv⟩ | ⟨hw, rfl⟩
  · simp only [hw, if_true, Oper.wp]
    have hr := hv w hS
    generalize (execOp a.eval o).run P w = r at hr
    refine .inl ?_
    cases r with
    | ok n w' =>
      cases n with
      | value u => obtain ⟨rfl, hp⟩ := hr; exact h _ hp
      | enter f args =>
        refine Calls.mono hr.2 fun e w'' he => ?_
        obtain ⟨rfl, hp⟩ := he
        exact h _ (hr.1.pure hp)
      | _ => exact hr.elim
    | _ => exact hr.elim
  · simp only [hw, Bool.false_eq_true, if_false]; exact h _ (Turn.refl _ _)
theorem AnsIf.of_same {o : Oper} {v : Value} {a a' : Act} (hy : AnsIf P ops S o v a) (he : execOp a'.eval o = execOp a.eval o)
    (hw : Region.wanted o (yielded ops a'.tmps) = Region.wanted o (yielded ops a.tmps)) : AnsIf P ops S o v a' := by
  unfold AnsIf at *
  rw [he, hw]
  exact hy
theorem wpOp_putA {j : Nat} {oi oj : Oper} {v : Value} (hj : ops[j]? = some oj) (hap : oi.apart ops oj = true)
    (hsi : ∀ cs b, oi.op ≠ .select cs b) (hsj : ∀ cs b, oj.op ≠ .select cs b)
    (hQ : ∀ c a w, Q (.panic c) (a.put oi.dst v) w → Q (.panic c) a w) {K : Act → World → Prop} {a : Act} {w : World}
    (hy : AnsIf P ops S oi v a) (h : wpOp P ops Q j K (a.put oi.dst v) w) :
    wpOp P ops Q j (fun a' w' => AnsIf P ops S oi v a' ∧ K (a'.put oi.dst v) w') a w := by
  obtain ⟨h1, h2, h3⟩ := Oper.apart_spec hap
  have keep : ∀ (a : Act), AnsIf P ops S oi v a → ∀ u, AnsIf P ops S oi v (a.put oj.dst u) := fun a hy u =>
    hy.of_same (execOp_put oi hsi a oj.dst u h3) (wanted_put oi a oj.dst u h3)
  have keepD : ∀ d, AnsIf P ops S oi v { a with defers := d :: a.defers } := fun d => hy.of_same rfl rfl
  unfold wpOp at *
  simp only [hj] at *
  rw [wanted_put oj a oi.dst v h1] at h
  split
  · rename_i hw
    simp only [hw, if_true] at h
    rcases h with h | ⟨hasks, hlets⟩
    case inr => exact .inr ⟨by unfold Oper.asks at *; rw [execOp_put oj hsj a oi.dst v h1] at hasks; exact hasks, hlets⟩
    refine .inl ?_
    unfold Oper.wp at *
    rw [execOp_put oj hsj a oi.dst v h1] at h
    generalize (execOp a.eval oj).run P w = r at *
    cases r with
    | ok n w' =>
      cases n <;> simp only [Oper.upon] at h ⊢
      case value u => exact ⟨keep a hy u, by rw [← Act.put_comm a v u h2]; exact h⟩
      case skip => exact ⟨keep a hy _, by rw [← Act.put_comm a v undef h2]; exact h⟩
      case defer d =>
        refine ⟨keep _ (keepD d) _, ?_⟩
        rw [← Act.put_comm _ v undef h2, ← Act.put_defers]
        exact h
      case enter f args =>
        refine Calls.mono h fun e w'' he => ?_
        cases e with
        | returned u => exact ⟨keep a hy u, by rw [← Act.put_comm a v u h2]; exact he⟩
        | panicked c => exact hQ _ _ _ he
        | outgrown => exact he
      case row row args => exact Rows.mono h fun u w'' he => ⟨keep a hy u, by rw [← Act.put_comm a v u h2]; exact he⟩
    | halt x w' =>
      cases x <;> simp only [Oper.upon] at h ⊢
      case panic u => exact hQ _ _ _ h
  · rename_i hw
    simp only [hw] at h
    exact ⟨keep a hy _, by rw [← Act.put_comm a v undef h2]; exact h⟩

/-- Does k wait for i, at once or by others? -/
def reachB (md : Region.Mode) (ops : Array Oper) : Nat → Nat → Nat → Bool
  | 0, _, _ => false
  | f + 1, k, i => ((ops[k]?).map fun o => o.after.any fun e => Region.binds md e && (e.on == i || reachB md ops f e.on i)).getD false
/-- Does this one wait for all that have come up? -/
def waitsB (md : Region.Mode) (ops : Array Oper) (k : Nat) (listed : Array Bool) : Bool :=
  (List.range ops.size).all fun i => !(listed.getD i false) || reachB md ops ops.size k i
/-- All that these wait for has come up. -/
def closedB (md : Region.Mode) (ops : Array Oper) (listed : Array Bool) : Bool :=
  (List.range ops.size).all fun j => !(listed.getD j false) || ((ops[j]?).map fun o => o.after.all fun e => !(Region.binds md e) || listed.getD e.on false).getD true
theorem closedB_spec {listed : Array Bool} (h : closedB md ops listed = true) (j : Nat) (o : Oper) (ho : ops[j]? = some o) (hl : listed.getD j false = true) (e : Edge) (he : e ∈ o.after) (hb : Region.binds md e = true) : listed.getD e.on false = true := by
  have h1 := List.all_eq_true.1 h j (List.mem_range.2 (Array.getElem?_eq_some_iff.1 ho).1)
  rw [hl, ho] at h1
  simp only [Bool.not_true, Bool.false_or, Option.map_some, Option.getD_some] at h1
  have h2 := Array.all_eq_true_iff_forall_mem.1 h1 e he
  rw [hb] at h2
  simpa using h2
theorem reachB_spec {listed : Array Bool} {i : Nat} (hcl : ∀ j o, ops[j]? = some o → listed.getD j false = true → ∀ e ∈ o.after, Region.binds md e = true → listed.getD e.on false = true) :
    ∀ (f k : Nat) (o : Oper), ops[k]? = some o → (∀ e ∈ o.after, Region.binds md e = true → listed.getD e.on false = true) → reachB md ops f k i = true → listed.getD i false = true
  | 0, _, _, _, _, h => by simp [reachB] at h
  | f + 1, k, o, ho, ha, h => by
    simp only [reachB, ho, Option.map_some, Option.getD_some] at h
    obtain ⟨e, he, h3⟩ := Array.any_eq_true'.1 h
    obtain ⟨h4, h5⟩ := (Bool.and_eq_true _ _).mp h3
    have hl := ha e he h4
    rcases (Bool.or_eq_true _ _).mp h5 with h6 | h6
    · rw [← (beq_iff_eq.1 h6)]; exact hl
    · cases ho2 : ops[e.on]? with
      | none =>
        cases f with
        | zero => simp [reachB] at h6
        | succ f => simp [reachB, ho2] at h6
      | some o2 => exact reachB_spec hcl f e.on o2 ho2 (hcl _ _ ho2 hl) h6
/-- Whatever order is picked, from whatever world of which S and T are known. -/
def AnyG (P : Program) (md : Region.Mode) (ops : Array Oper) (Q : Exit → Act → World → Prop) (S : World → Prop) (T : Array Bool → Act → World → Prop) : Nat → Array Bool → Act → Prop
  | 0, listed, a => Region.ready md ops listed = [] ∧ ∀ w, S w → T listed a w → Q .normal a w
  | fuel + 1, listed, a =>
    ((∃ k, Region.ready md ops listed = [k] ∧ waitsB md ops k listed = true) ∧ ∀ w, S w → T listed a w → wpAny P md ops Q (fuel + 1) listed a w) ∨
    ((Region.ready md ops listed = [] → ∀ w, S w → T listed a w → Q .normal a w) ∧
      ∀ i ∈ Region.ready md ops listed, ∀ w, S w → T listed a w → wpOp P ops Q i (fun a' w' => S w' ∧ T (listed.setIfInBounds i true) a' w' ∧ AnyG P md ops Q S T fuel (listed.setIfInBounds i true) a') a w)
theorem anyG_sound : ∀ (fuel : Nat) (listed : Array Bool) (a : Act), AnyG P md ops Q S T fuel listed a → ∀ w, S w → T listed a w → wpAny P md ops Q fuel listed a w
  | 0, _, _, h, w, hS, hT => ⟨h.1, h.2 w hS hT⟩
  | fuel + 1, _, _, h, w, hS, hT => by
    rcases h with h | h
    · exact h.2 w hS hT
    · exact ⟨fun h0 => h.1 h0 w hS hT, fun i hi => wpOp_mono (fun a' w' h' => anyG_sound fuel _ a' h'.2.2 w' h'.1 h'.2.1) (h.2 i hi w hS hT)⟩
theorem anyG_first {i : Nat} {oi : Oper} {v : Value} (hi : ops[i]? = some oi) (hsel : ∀ (j : Nat) (o : Oper) cs b, ops[j]? = some o → o.op ≠ .select cs b)
    (hQ : ∀ c a w, Q (.panic c) (a.put oi.dst v) w → Q (.panic c) a w) (HG : Grow S T) (hins : ∀ l a w, T (l.setIfInBounds i true) (a.put oi.dst v) w ↔ T l a w) :
    ∀ (fuel : Nat) (listed : Array Bool) (a : Act),
      (∀ j oj, ops[j]? = some oj → j ≠ i → listed.getD j true = false → (∀ e ∈ oj.after, Region.binds md e = true → e.on ≠ i) → oi.apart ops oj = true) →
      (∀ j o, ops[j]? = some o → listed.getD j false = true → ∀ e ∈ o.after, Region.binds md e = true → listed.getD e.on false = true) →
      i ∈ Region.ready md ops listed → AnsIf P ops S oi v a →
      AnyG P md ops Q S T fuel (listed.setIfInBounds i true) (a.put oi.dst v) → AnyG P md ops Q S T (fuel + 1) listed a := by
  intro fuel
  induction fuel with
  | zero =>
    intro listed a _ _ hr hy H
    refine .inr ⟨fun h => (by rw [h] at hr; cases hr), fun j hj w hS hT => ?_⟩
    by_cases hji : j = i
    · subst hji; exact hy.wpOp hi hS fun w' hp => ⟨HG.world _ _ hS hp, (hins listed a w').2 (HG.act _ _ _ _ hT hp), H⟩
    · have := ready_mono hj hji
      rw [H.1] at this
      cases this
  | succ fuel ih =>
    intro listed a hfree hcl hr hy H
    refine .inr ⟨fun h => (by rw [h] at hr; cases hr), fun j hj w hS hT => ?_⟩
    by_cases hji : j = i
    · subst hji; exact hy.wpOp hi hS fun w' hp => ⟨HG.world _ _ hS hp, (hins listed a w').2 (HG.act _ _ _ _ hT hp), H⟩
    · obtain ⟨hjun, oj, hoj, hall⟩ := mem_ready.1 hj
      have hi0 := (mem_ready.1 hr).1
      have hisz : i < listed.size := by
        rcases Nat.lt_or_ge i listed.size with h' | h'
        · exact h'
        · simp [Array.getElem?_eq_none h'] at hi0
      rcases H with ⟨⟨k, hk, hw⟩, _⟩ | H
      · exfalso
        have hj' := ready_mono hj hji
        rw [hk] at hj'
        obtain rfl : j = k := by simpa using hj'
        have h1 := List.all_eq_true.1 hw i (List.mem_range.2 (Array.getElem?_eq_some_iff.1 hi).1)
        have h2 : (listed.setIfInBounds i true).getD i false = true := by simp [hisz]
        rw [h2] at h1
        simp only [Bool.not_true, Bool.false_or] at h1
        have h3 := reachB_spec hcl _ _ oj hoj hall h1
        simp [hisz] at hi0 h3
        rw [hi0] at h3; cases h3
      · have h1 := H.2 j (ready_mono hj hji) w hS ((hins listed a w).2 hT)
        have hnot : ∀ e ∈ oj.after, Region.binds md e = true → e.on ≠ i := fun e he hb heq => by
          have h1 := hall e he hb
          rw [heq] at h1
          simp [hisz] at hi0 h1
          rw [hi0] at h1; cases h1
        have h2 := wpOp_putA hoj (hfree j oj hoj hji hjun hnot) (fun cs b => hsel i oi cs b hi) (fun cs b => hsel j oj cs b hoj) hQ hy h1
        have hfree' : ∀ k ok, ops[k]? = some ok → k ≠ i → (listed.setIfInBounds j true).getD k true = false →
            (∀ e ∈ ok.after, Region.binds md e = true → e.on ≠ i) → oi.apart ops ok = true := fun k ok hk hki hun hno => by
          refine hfree k ok hk hki ?_ hno
          by_cases hjk : j = k
          · subst hjk; exact hjun
          · rw [getD_set_ne true hjk] at hun; exact hun
        have hcl' : ∀ m o, ops[m]? = some o → (listed.setIfInBounds j true).getD m false = true → ∀ e ∈ o.after, Region.binds md e = true → (listed.setIfInBounds j true).getD e.on false = true := fun m o hm hl e he hb => by
          by_cases hmj : j = m
          · subst hmj
            rw [hoj] at hm
            cases hm
            exact getD_set_true (hall e he hb)
          · rw [getD_set_ne false hmj] at hl
            exact getD_set_true (hcl m o hm hl e he hb)
        refine wpOp_mono (fun a' w' h3 => ?_) h2
        obtain ⟨h3a, h3b, h3c, h3d⟩ := h3
        rw [← Array.setIfInBounds_comm _ _ hji] at h3c h3d
        exact ⟨h3b, (hins _ a' w').1 h3c, ih (listed.setIfInBounds j true) a' hfree' hcl' (ready_mono hr (Ne.symm hji)) h3a h3d⟩

/-- Number i is taken first: it answers v. -/
theorem anyG_take {i : Nat} {oi : Oper} {v : Value} {fuel : Nat} {listed : Array Bool} {a : Act} (HG : Grow S T) (hi : ops[i]? = some oi)
    (hs : Region.noSelect ops = true) (hf : (Region.free md ops listed i && closedB md ops listed) = true) (hr : (Region.ready md ops listed).contains i = true)
    (hQ : ∀ c a w, Q (.panic c) (a.put oi.dst v) w → Q (.panic c) a w) (hins : ∀ l a w, T (l.setIfInBounds i true) (a.put oi.dst v) w ↔ T l a w) (hy : YieldsIf P ops S oi v a)
    (h : AnyG P md ops Q S T fuel (listed.setIfInBounds i true) (a.put oi.dst v)) : AnyG P md ops Q S T (fuel + 1) listed a :=
  anyG_first hi (Region.noSelect_spec hs) hQ HG hins fuel listed a (Region.free_spec hi ((Bool.and_eq_true _ _).mp hf).1) (closedB_spec ((Bool.and_eq_true _ _).mp hf).2) (by simpa using hr) (.ofYields hy) h
/-- A call that lays new blocks at most. -/
theorem anyG_call {i : Nat} {oi : Oper} {v : Value} {fuel : Nat} {listed : Array Bool} {a : Act} {f : FuncId} {args : Array Value} (HG : Grow S T) (hc : ∀ w, S w → Calls P f args w fun e w' => e = .returned v ∧ Pure w w') (hi : ops[i]? = some oi)
    (hs : Region.noSelect ops = true) (hf : (Region.free md ops listed i && closedB md ops listed) = true) (hr : (Region.ready md ops listed).contains i = true)
    (hQ : ∀ c a w, Q (.panic c) (a.put oi.dst v) w → Q (.panic c) a w) (hins : ∀ l a w, T (l.setIfInBounds i true) (a.put oi.dst v) w ↔ T l a w) (hw : Region.wanted oi (yielded ops a.tmps) = true)
    (hx : ∀ w, S w → (execOp a.eval oi).run P w = .ok (.enter f args) w)
    (h : AnyG P md ops Q S T fuel (listed.setIfInBounds i true) (a.put oi.dst v)) : AnyG P md ops Q S T (fuel + 1) listed a :=
  anyG_first hi (Region.noSelect_spec hs) hQ HG hins fuel listed a (Region.free_spec hi ((Bool.and_eq_true _ _).mp hf).1) (closedB_spec ((Bool.and_eq_true _ _).mp hf).2) (by simpa using hr) (.inl ⟨hw, fun w hS => by rw [hx w hS]; exact ⟨Turn.refl _ _, hc w hS⟩⟩) h
/-- May this one be taken first? -/
def takeB (md : Region.Mode) (ops : Array Oper) (listed : Array Bool) (i : Nat) : Bool := Region.noSelect ops && (Region.free md ops listed i && closedB md ops listed) && (Region.ready md ops listed).contains i
/-- The next one in the order of the text is number i. -/
def At (_ : Nat) (p : Prop) : Prop := p
theorem atN (i : Nat) {p : Prop} (h : At i p) : p := h
/-- The next one in the order of the text is taken: it answers v. -/
theorem anyG_y {i : Nat} {oi : Oper} {v : Value} {fuel : Nat} {listed : Array Bool} {a : Act} (HG : Grow S T) (hi : ops[i]? = some oi) (hb : takeB md ops listed i = true)
    (hQ : ∀ c a w, Q (.panic c) (a.put oi.dst v) w → Q (.panic c) a w) (hins : ∀ l a w, T (l.setIfInBounds i true) (a.put oi.dst v) w ↔ T l a w) (hy : YieldsIf P ops S oi v a)
    (h : At (i + 1) (AnyG P md ops Q S T fuel (listed.setIfInBounds i true) (a.put oi.dst v))) : At i (AnyG P md ops Q S T (fuel + 1) listed a) := by
  unfold takeB at hb
  have hb2 := (Bool.and_eq_true _ _).mp hb
  have hb1 := (Bool.and_eq_true _ _).mp hb2.1
  exact anyG_take HG hi hb1.1 hb1.2 hb2.2 hQ hins hy h
theorem anyG_c {i : Nat} {oi : Oper} {v : Value} {fuel : Nat} {listed : Array Bool} {a : Act} {f : FuncId} {args : Array Value} (HG : Grow S T) (hc : ∀ w, S w → Calls P f args w fun e w' => e = .returned v ∧ Pure w w') (hi : ops[i]? = some oi)
    (hb : takeB md ops listed i = true)
    (hQ : ∀ c a w, Q (.panic c) (a.put oi.dst v) w → Q (.panic c) a w) (hins : ∀ l a w, T (l.setIfInBounds i true) (a.put oi.dst v) w ↔ T l a w) (hw : Region.wanted oi (yielded ops a.tmps) = true)
    (hx : ∀ w, S w → (execOp a.eval oi).run P w = .ok (.enter f args) w)
    (h : At (i + 1) (AnyG P md ops Q S T fuel (listed.setIfInBounds i true) (a.put oi.dst v))) : At i (AnyG P md ops Q S T (fuel + 1) listed a) := by
  unfold takeB at hb
  have hb2 := (Bool.and_eq_true _ _).mp hb
  have hb1 := (Bool.and_eq_true _ _).mp hb2.1
  exact anyG_call HG hc hi hb1.1 hb1.2 hb2.2 hQ hins hw hx h
/-- One operation that is forced. -/
theorem anyG_step {i : Nat} {oi : Oper} {fuel : Nat} {listed : Array Bool} {a : Act} (hr : decide (Region.ready md ops listed = [i]) = true) (hi : ops[i]? = some oi)
    (h : ∀ w, S w → T listed a w → ∀ K : Act → World → Prop, Hid (∀ a' w', S w' → T (listed.setIfInBounds i true) a' w' → AnyG P md ops Q S T fuel (listed.setIfInBounds i true) a' → K a' w') → if Region.wanted oi (yielded ops a.tmps) = true then Oper.wp P oi a w K Q else K (a.put oi.dst undef) w) : AnyG P md ops Q S T (fuel + 1) listed a := by
  have hr' : Region.ready md ops listed = [i] := of_decide_eq_true hr
  refine .inr ⟨fun h0 => (by rw [hr'] at h0; cases h0), fun j hj w hS hT => ?_⟩
  rw [hr'] at hj
  obtain rfl : j = i := by simpa using hj
  have := h w hS hT (fun a' w' => S w' ∧ T (listed.setIfInBounds j true) a' w' ∧ AnyG P md ops Q S T fuel (listed.setIfInBounds j true) a') (Lib.hid fun a' w' h1 h2 h3 => ⟨h1, h2, h3⟩)
  unfold wpOp
  simp only [hi]
  split
  · rename_i hw; rw [if_pos hw] at this; exact .inl this
  · rename_i hw; rw [if_neg hw] at this; exact this
theorem anyG_done {listed : Array Bool} {a : Act} (hr : (Region.ready md ops listed).isEmpty = true) (h : ∀ w, S w → T listed a w → Q .normal a w) : ∀ fuel, AnyG P md ops Q S T fuel listed a
  | 0 => ⟨by simpa using hr, h⟩
  | _ + 1 => .inr ⟨fun _ => h, by rw [List.isEmpty_iff.1 hr]; simp⟩
/-- Are these forced, one after another? -/
def lineB (md : Region.Mode) (ops : Array Oper) : List Nat → Array Bool → Bool
  | [], listed => (Region.ready md ops listed).isEmpty
  | i :: l, listed => decide (Region.ready md ops listed = [i]) && (ops[i]?).isSome && lineB md ops l (listed.setIfInBounds i true)
theorem wpAny_line : ∀ (l : List Nat) (fuel : Nat) (listed : Array Bool) (a : Act) (w : World), lineB md ops l listed = true → l.length ≤ fuel →
    wpList P ops Q (l.filterMap fun i => ops[i]?) a w → wpAny P md ops Q fuel listed a w
  | [], 0, listed, a, w, hf, _, h => ⟨List.isEmpty_iff.1 hf, h⟩
  | [], fuel + 1, listed, a, w, hf, _, h => ⟨fun _ => h, by rw [List.isEmpty_iff.1 hf]; simp⟩
  | i :: l, 0, listed, a, w, hf, hl, h => by simp at hl
  | i :: l, fuel + 1, listed, a, w, hf, hl, h => by
    simp only [lineB, Bool.and_eq_true, decide_eq_true_eq] at hf
    obtain ⟨⟨hr, ho⟩, hrest⟩ := hf
    obtain ⟨o, ho⟩ := Option.isSome_iff_exists.1 ho
    simp only [List.filterMap_cons, ho] at h
    refine ⟨fun h0 => (by rw [hr] at h0; cases h0), fun j hj => ?_⟩
    rw [hr] at hj
    obtain rfl : j = i := by simpa using hj
    have ih := fun a w => wpAny_line l fuel (listed.setIfInBounds j true) a w hrest (by simpa using hl)
    unfold wpOp
    simp only [ho]
    rw [wpList] at h
    split
    · rename_i hw
      rw [if_pos hw] at h
      exact h.imp (Oper.wp_mono ih) id
    · rename_i hw
      rw [if_neg hw] at h
      exact ih _ _ h
/-- The rest is forced, and waits for all that came: it is walked from one world. -/
theorem anyG_tail (l : List Nat) {k : Nat} {fuel : Nat} {listed : Array Bool} {a : Act} (hk : (l.head? == some k && waitsB md ops k listed && lineB md ops l listed && decide (l.length ≤ fuel + 1)) = true)
    (h : ∀ w, S w → T listed a w → wpList P ops Q (l.filterMap fun i => ops[i]?) a w) : AnyG P md ops Q S T (fuel + 1) listed a := by
  simp only [Bool.and_eq_true, decide_eq_true_eq] at hk
  obtain ⟨⟨⟨h1, h2⟩, h3⟩, h4⟩ := hk
  cases l with
  | nil => simp at h1
  | cons i l =>
    obtain rfl : i = k := by simpa using h1
    refine .inl ⟨⟨i, ?_, h2⟩, fun w hS hT => wpAny_line (i :: l) _ _ _ _ h3 h4 (h w hS hT)⟩
    simp only [lineB, Bool.and_eq_true, decide_eq_true_eq] at h3
    exact h3.1.1
/-- A variable that the region makes: where its slot points. -/
def NewAt (s : Tmp) (B : Nat) (o : Obj) (_ : Array Bool) (a : Act) (w : World) : Prop := ∀ g, a.tmps.getD s undef = .pointer (some ⟨g, 0, none⟩) → B ≤ g → w.heap[g]? = some o
theorem NewAt.ins {s d : Tmp} {i B : Nat} {o : Obj} {v : Value} (h : d ≠ s) : ∀ l a w, NewAt s B o (l.setIfInBounds i true) (a.put (some d) v) w ↔ NewAt s B o l a w := fun l a w => by
  have e : (a.put (some d) v).tmps.getD s undef = a.tmps.getD s undef := by
    show (a.tmps.setIfInBounds d v).getD s undef = _
    rw [Array.getD_eq_getD_getElem?, Array.getD_eq_getD_getElem?, Array.getElem?_setIfInBounds_ne h]
  unfold NewAt
  rw [e]
theorem Grow.heldNew (w0 : World) (L : List (Nat × Obj)) (s : Tmp) (B : Nat) (o : Obj) : Grow (fun w => Pure w0 w ∧ Held L w) (NewAt s B o) := ⟨fun _ _ h t => ⟨h.1.pure t, h.2.pure t⟩, fun _ _ _ _ h t g e hB => t.obj (h g e hB) (fun e => e)⟩
theorem anyG_alloc {t : TypeId} {i s : Nat} {B : Nat} {z : Value} {oi : Oper} {fuel : Nat} {listed : Array Bool} {a : Act} (HG : Grow S (NewAt s B (.cells z.cells t (0, 0)))) (hr : decide (Region.ready md ops listed = [i]) = true) (hi : ops[i]? = some oi)
    (hg : oi.guard = none) (ho : oi.op = .alloc t) (hd : oi.dst = some s) (hz : (P.info? t).bind (·.zero) = some z) (hB : ∀ w, S w → B ≤ w.heap.size) (hs : s < a.tmps.size)
    (h : ∀ g, B ≤ g → AnyG P md ops Q S (NewAt s B (.cells z.cells t (0, 0))) fuel (listed.setIfInBounds i true) (a.put (some s) (.pointer (some ⟨g, 0, none⟩)))) : AnyG P md ops Q S (NewAt s B (.cells z.cells t (0, 0))) (fuel + 1) listed a := by
  refine anyG_step hr hi fun w hS hT K hK => ?_
  rw [if_pos (by simp [Region.wanted, hg])]
  obtain ⟨ii, hii, hzi⟩ := Option.bind_eq_some_iff.1 hz
  have hp : Pure w (w.alloc (.cells z.cells t)) := (Turn.refl _ _).alloc _
  have hk := hK.out (a.put (some s) (.pointer (some ⟨w.heap.size, 0, none⟩))) (w.alloc (.cells z.cells t)) (HG.world _ _ hS hp) (fun g e _ => by
    have e2 : (a.put (some s) (.pointer (some ⟨w.heap.size, 0, none⟩))).tmps.getD s undef = .pointer (some ⟨w.heap.size, 0, none⟩) := by
      show (a.tmps.setIfInBounds s _).getD s undef = _
      rw [Array.getD_eq_getD_getElem?, Array.getElem?_setIfInBounds_self_of_lt hs]; rfl
    rw [e2] at e
    cases e
    exact heap_alloc_new _ _) (h w.heap.size (hB w hS))
  have hrun : (execOp a.eval oi).run P w = .ok (.value (.pointer (some ⟨w.heap.size, 0, none⟩))) (w.alloc (.cells z.cells t)) := by
    unfold execOp
    simp [ho, Instr.alloc, zeroValue, typeInfo, hii, hzi, newVar, newRow, newObj, Result.andThen]
    rfl
  unfold Oper.wp
  rw [hrun]
  show K (a.put oi.dst _) _
  rw [hd]
  exact hk
theorem setAt {w : World} {g i : Nat} {C : List Value} {v : Value} {T : TypeId} (hg : w.heap[g]? = some (.cells C.toArray T (0, 0))) (hi : i < C.length) : (w.setCell ⟨g, i, none⟩ v).heap[g]? = some (.cells (C.take i ++ [v] ++ C.drop (i + 1)).toArray T (0, 0)) ∧ Turn (fun k => k = g) w (w.setCell ⟨g, i, none⟩ v) ∧ (w.setCell ⟨g, i, none⟩ v).heap.size = w.heap.size := by
  refine ⟨?_, (Turn.refl (fun k => k = g) w).setCell (p := ⟨g, i, none⟩) (fun _ => rfl) _, by simp [World.setCell]⟩
  have := setCells_heap g [v] i w _ _ _ hg (by simp; omega)
  simpa [World.setCells] using this
theorem setOne {w : World} {g : Nat} {o v : Value} {T : TypeId} (hg : w.heap[g]? = some (.cells #[o] T (0, 0))) : (w.setCell ⟨g, 0, none⟩ v).heap[g]? = some (.cells #[v] T (0, 0)) ∧ Turn (fun k => k = g) w (w.setCell ⟨g, 0, none⟩ v) ∧ (w.setCell ⟨g, 0, none⟩ v).heap.size = w.heap.size :=
  setAt (C := [o]) hg (by simp)
theorem cell_one {w : World} {g : Nat} {o : Value} {T : TypeId} (hg : w.heap[g]? = some (.cells #[o] T (0, 0))) : w.cell? ⟨g, 0, none⟩ = some o ∧ w.frozen? ⟨g, 0, none⟩ = false := ⟨by rw [cell_of_row w g 0 _ _ _ hg]; rfl, frozen_of_row w g 0 _ _ hg⟩
/-- A block that one operation writes. -/
def StoreAt (i g : Nat) (o1 o2 : Obj) (l : Array Bool) (_ : Act) (w : World) : Prop := w.heap[g]? = some (if l.getD i false = true then o2 else o1)
theorem StoreAt.ins {i j g : Nat} {o1 o2 : Obj} {d : Option Tmp} {v : Value} (h : j ≠ i) : ∀ l a w, StoreAt i g o1 o2 (l.setIfInBounds j true) (a.put d v) w ↔ StoreAt i g o1 o2 l a w := fun l a w => by
  unfold StoreAt
  rw [getD_set_ne false h]
theorem Grow.store (w0 : World) (L : List (Nat × Obj)) (i g : Nat) (o1 o2 : Obj) : Grow (fun w => Turn (fun k => k = g) w0 w ∧ Held L w) (StoreAt i g o1 o2) := ⟨fun _ _ h t => ⟨h.1.pure t, h.2.pure t⟩, fun _ _ _ _ h t => t.obj h (fun e => e)⟩
theorem anyG_store {i g : Nat} {ty : TypeId} {x y : Operand} {old : Array Value} {cs : List Value} {T0 : TypeId} {w0 : World} {L : List (Nat × Obj)} {oi : Oper} {fuel : Nat} {listed : Array Bool} {a : Act}
    (hr : decide (Region.ready md ops listed = [i]) = true) (hi : ops[i]? = some oi) (hg : oi.guard = none) (ho : oi.op = .store ty x y) (hx : a.eval x = .pointer (some ⟨g, 0, none⟩)) (hy : a.eval y = .agg cs.toArray)
    (hs : old.size = cs.length) (hinf : (P.info? ty).map (·.size) = some cs.length) (h1 : ∀ v ∈ cs, v.oneCell' = true) (hL : ∀ p ∈ L, p.1 ≠ g)
    (h : AnyG P md ops Q (fun w => Turn (fun k => k = g) w0 w ∧ Held L w) (StoreAt i g (.cells old T0 (0, 0)) (.cells cs.toArray T0 (0, 0))) fuel (listed.setIfInBounds i true) (a.put oi.dst undef)) :
    AnyG P md ops Q (fun w => Turn (fun k => k = g) w0 w ∧ Held L w) (StoreAt i g (.cells old T0 (0, 0)) (.cells cs.toArray T0 (0, 0))) (fuel + 1) listed a := by
  refine anyG_step hr hi fun w hS hT K hK => ?_
  have hr' : Region.ready md ops listed = [i] := of_decide_eq_true hr
  have hun := (mem_ready.1 (by rw [hr']; exact List.mem_singleton.2 rfl : i ∈ Region.ready md ops listed)).1
  have hisz : i < listed.size := by
    rcases Nat.lt_or_ge i listed.size with h' | h'
    · exact h'
    · simp [Array.getElem?_eq_none h'] at hun
  have hl0 : listed.getD i false = false := by simp [hisz] at hun ⊢; exact hun
  have hl1 : (listed.setIfInBounds i true).getD i false = true := by simp [hisz]
  unfold StoreAt at hT
  rw [hl0, if_neg (by decide)] at hT
  rw [if_pos (by simp [Region.wanted, hg])]
  refine wp_store_mid ty x y ho g 0 cs.toArray hx hy ?_ (by simpa using hinf) (all_oneCell_toArray h1) ?_
  · intro j hj
    rw [Nat.zero_add, cell_of_row w g j old T0 (0, 0) hT, frozen_of_row w g j old T0 hT]
    exact ⟨by simp at hj ⊢; omega, rfl⟩
  · have hw := setCells_heap g cs 0 w old T0 (0, 0) hT (by omega)
    have ht : Turn (fun k => k = g) w (w.setCells g 0 cs) := ⟨World.os_setCells _ _ _ _, setCells_tape _ _ _ _, World.output_setCells _ _ _ _, by rw [setCells_size]; exact Nat.le_refl _, fun k hk hn => World.heap_setCells_other w g _ _ hk hn⟩
    refine hK.out _ _ ⟨hS.1.trans ht fun _ _ e => e, fun p hp => ht.obj (hS.2 p hp) (hL p hp)⟩ ?_ h
    unfold StoreAt
    rw [hl1, if_pos rfl, hw]
    simp [List.drop_eq_nil_of_le, hs]
/-- A region that draws. -/
theorem wp_region_G {id : Nat} {a : Act} {w : World} (S : World → Prop) (T : Array Bool → Act → World → Prop) (hm : P.follows .mixedOrders = true) (hS : S w.drew) (hT : T (Array.replicate ops.size false) a w.drew)
    (h : AnyG P .any ops Q S T ops.size (Array.replicate ops.size false) a) : (Code.region id ops true).wp P Q a w :=
  wp_region_any hm (anyG_sound _ _ _ h _ hS hT)
end
end Go.Proofs.Ytigkmdjdnkbdkaa
