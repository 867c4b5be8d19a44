/- A range over a function: the loop's body and the iterator by the plain kit. A range over a function whose body writes what earlier rounds laid. -/
import Derived.Test.YtcfbmbhkdicpfaaGrow
import Derived.LoopIn
import Derived.LoopNIn
import Derived.OwnWalkIn
import Derived.RangeFuncBound
import Derived.RangeFuncCalls
import Derived.RangeFuncLeaves
import Derived.RangeFuncNested
import Derived.RangeFuncRecord
import Derived.TacticsInMore
namespace Go.Proofs.Ytcfbmbhkdicpfaa
open Go.RowKit

/-- A post that lets no panic by. -/
def calmQ (Q : Exit → Act → World → Prop) : Exit → Act → World → Prop
  | .panic _, _, _ => False
  | .outgrown, _, _ => False
  | e, a, w => Q e a w
theorem wp_calm {P : Program} {c : Code} {Q : Exit → Act → World → Prop} {a : Act} {w : World} (h : c.wp P (calmQ Q) a w) : c.wp P Q a w :=
  Code.wp_mono (fun e a w q => by cases e <;> first | exact q | exact q.elim) h
def Oper.noDefer (o : Oper) : Bool := match o.op with
  | .defer _ => false
  | _ => true
section
variable {P : Program} {ops : Array Oper} {Q : Exit → Act → World → Prop}

theorem uponIn_of_upon {n : Nat} {F : Fence} (hF : F = Fence.wide ∨ ∃ l, F = Fence.wide.inRound l) {o : Oper} {a : Act} {next : Act → World → Prop} {r : Result Next} (h : o.upon P a next Q r) : o.uponIn F n P a next Q r := by
  have hd : F.depth.isSome = true → 1 ≤ n := by
    rcases hF with rfl | ⟨l, rfl⟩ <;> (intro h; cases h)
  have hc : ∀ {m : Nat} {f : FuncId} {args : Array Value} {w : World} {R : Ending → World → Prop}, Calls P f args w R → CallsIn F m P f args w R := fun h => by
    rcases hF with rfl | ⟨l, rfl⟩
    · exact callsIn_wide.2 h
    · exact CallsIn.inRound l (callsIn_wide.2 h)
  cases r with
  | ok nx w' =>
    cases nx with
    | value v => exact h
    | skip => exact h
    | defer d => exact h
    | enter f args => exact ⟨hd, hc h⟩
    | row row args =>
      refine ⟨hd, fun c cs _ => ?_⟩
      obtain ⟨v, w2, hr, hs⟩ := h c cs
      refine ⟨v, w2, hr, ?_⟩
      rcases hF with rfl | ⟨l, rfl⟩
      · exact stepsIn_wide.2 hs
      · exact stepsIn_wide.2 hs
    | _ => exact h.elim
  | halt x w' =>
    cases x with
    | panic v => exact h
    | _ => exact h.elim
theorem semAt_plain {F : Fence} (hF : F = Fence.wide ∨ ∃ l, F = Fence.wide.inRound l) {o : Oper} (hd : Oper.noDefer o = true) (ρ : Operand → Value) : o.semAt F.round ρ = execOp ρ o := by
  rcases hF with rfl | ⟨l, rfl⟩
  · exact Oper.semAt_none ρ o
  · refine Oper.semAt_some l ρ o fun c hc => ?_
    unfold Oper.noDefer at hd
    rw [hc] at hd
    cases hd
theorem fnAny {F : Fence} (hF : F = Fence.wide ∨ ∃ l, F = Fence.wide.inRound l) (f : FuncId) : F.fn f := by
  rcases hF with rfl | ⟨l, rfl⟩ <;> trivial
/-- A list of operations, walked by the plain kit; behind it the fenced walk goes on. -/
theorem wpListIn_app {n : Nat} {F : Fence} (hF : F = Fence.wide ∨ ∃ l, F = Fence.wide.inRound l) (hQ : ∀ a w, ¬ Q .outgrown a w) (rest : List Oper) : ∀ (pre : List Oper) (a : Act) (w : World), (pre.all Oper.noDefer) = true →
    wpList P ops (fun e a w => match e with | .normal => wpListIn F n P ops Q rest a w | e => Q e a w) pre a w → wpListIn F n P ops Q (pre ++ rest) a w
  | [], a, w, _, h => h
  | o :: pre, a, w, hd, h => by
    simp only [List.all_cons, Bool.and_eq_true] at hd
    have ih := fun (a : Act) (w : World) => wpListIn_app (n := n) hF hQ rest pre a w hd.2
    rw [wpList] at h
    rw [List.cons_append, wpListIn]
    split
    · rename_i hw
      rw [if_pos hw] at h
      rcases h with h | ⟨_, a', w', ho⟩
      · refine ⟨fun f _ => fnAny hF f, ?_⟩
        rw [semAt_plain hF hd.1]
        have h2 := Oper.wp_mono (K' := wpListIn F n P ops Q (pre ++ rest)) ih h
        unfold Oper.wp at h2
        have h3 : o.upon P a (wpListIn F n P ops Q (pre ++ rest)) Q ((execOp a.eval o).run P w) := by
          generalize (execOp a.eval o).run P w = r at h2
          cases r with
          | ok nx w' =>
            cases nx with
            | enter f args =>
              refine Calls.mono h2 fun e w'' he => ?_
              cases e with
              | returned v => exact he
              | panicked c => exact he
              | outgrown => obtain ⟨a', w', ho⟩ := he; exact (hQ _ _ ho).elim
            | _ => exact h2
          | halt x w' => cases x <;> exact h2
        exact uponIn_of_upon hF h3
      · exact (hQ _ _ ho).elim
    · rename_i hw
      rw [if_neg hw] at h
      exact ⟨fun f _ => fnAny hF f, ih _ _ h⟩
theorem wpListIn_of {n : Nat} {F : Fence} (hF : F = Fence.wide ∨ ∃ l, F = Fence.wide.inRound l) (hQ : ∀ a w, ¬ Q .outgrown a w) {l : List Oper} {a : Act} {w : World} (hd : l.all Oper.noDefer = true) (h : wpList P ops Q l a w) : wpListIn F n P ops Q l a w := by
  have := wpListIn_app (Q := Q) (n := n) (ops := ops) (P := P) hF hQ [] l a w hd
  rw [List.append_nil] at this
  refine this ?_
  have e : (fun (e : Exit) (a : Act) (w : World) => match e with | .normal => wpListIn F n P ops Q [] a w | e => Q e a w) = Q := by
    funext e a w; cases e <;> rfl
  rw [e]; exact h
/-- A plain region in a round. -/
theorem wpIn_region_round {n : Nat} {F : Fence} (hF : F = Fence.wide ∨ ∃ l, F = Fence.wide.inRound l) {id : Nat} {l : List Oper} {a : Act} {w : World} (hd : l.all Oper.noDefer = true) (h : wpList P l.toArray (calmQ Q) l a w) : (Code.region id l.toArray false).wpIn F n P Q a w := by
  refine wpIn_mono (Q := calmQ Q) ?_ (fun e a w q => by cases e <;> first | exact q | exact q.elim)
  exact wpIn_region_lit (wpListIn_of hF (fun _ _ h => h) hd h)
theorem wpOpsIn_of {n : Nat} {F : Fence} (hF : F = Fence.wide ∨ ∃ l, F = Fence.wide.inRound l) (hQ : ∀ a w, ¬ Q .outgrown a w) (hd : ops.toList.all Oper.noDefer = true) : ∀ (l : List Nat) (a : Act) (w : World), wpOps P ops Q l a w → wpOpsIn F n P ops Q l a w
  | [], a, w, h => h
  | i :: l, a, w, h => by
    have ih := fun (a : Act) (w : World) => wpOpsIn_of (n := n) hF hQ hd l a w
    rw [wpOps] at h
    rw [wpOpsIn]
    cases ho : ops[i]? with
    | none => rw [ho] at h; exact ih _ _ h
    | some o =>
      rw [ho] at h
      have hdo : Oper.noDefer o = true := List.all_eq_true.1 hd o (by
        have := Array.mem_of_getElem? ho
        exact this.val)
      simp only at h ⊢
      split
      · rename_i hw
        rw [if_pos hw] at h
        rcases h with h | ⟨_, a', w', ho⟩
        · refine ⟨fun f _ => fnAny hF f, ?_⟩
          rw [semAt_plain hF hdo]
          have h2 := Oper.wp_mono (K' := wpOpsIn F n P ops Q l) ih h
          unfold Oper.wp at h2
          exact uponIn_of_upon hF h2
        · exact (hQ _ _ ho).elim
      · rename_i hw
        rw [if_neg hw] at h
        exact ⟨fun f _ => fnAny hF f, ih _ _ h⟩
/-- A region that draws, in a round. -/
theorem wpIn_region_roundG {n : Nat} {F : Fence} (hF : F = Fence.wide ∨ ∃ l, F = Fence.wide.inRound l) {id : Nat} {a : Act} {w : World} (S : World → Prop) (T : Array Bool → Act → World → Prop) (hm : P.follows .mixedOrders = true) (hd : ops.toList.all Oper.noDefer = true) (hS : S w.drew) (hT : T (Array.replicate ops.size false) a w.drew)
    (h : AnyG P .any ops (calmQ Q) S T ops.size (Array.replicate ops.size false) a) : (Code.region id ops true).wpIn F n P Q a w := by
  refine wpIn_mono (Q := calmQ Q) ?_ (fun e a w q => by cases e <;> first | exact q | exact q.elim)
  refine wpIn_region_draw fun t => ?_
  simp only [Region.schedule, hm, Bool.true_or, if_true]
  exact wpOpsIn_of hF (fun _ _ h => h) hd _ _ _ (wpAny_sound ops.size t _ a _ (anyG_sound _ _ _ h _ hS hT))
/-- A call of yield, at a plain region's list. -/
theorem wpListIn_yield {n : Nat} {o : Oper} {rest : List Oper} {a : Act} {w : World} (hg : o.guard = none) (f x : Operand) (ts : Array TypeId) (ho : o.op = .call { callee := .value f, args := #[x], argTypes := ts }) (l : Nat) (v : Value) (hf : a.eval f = .func (.yield l) #[] #[]) (hx : a.eval x = v)
    (R : Ending → World → Prop) (hy : YieldAt Fence.wide 0 P l #[v] w R) (h : ∀ e w', R e w' → ∃ u, e = .returned u ∧ wpListIn Fence.wide n P ops Q rest (a.put o.dst u) w') : wpListIn Fence.wide n P ops Q (o :: rest) a w := by
  obtain ⟨fn, tmps, assign, body, hrun, hR⟩ := hy
  refine wpListIn_plain hg fun K hK => ⟨fun f _ => fnAny (.inl rfl) f, ?_⟩
  rw [semAt_plain (.inl rfl) (by unfold Oper.noDefer; rw [ho])]
  have hr : (execOp a.eval o).run P w = .ok (.round l fn tmps assign body) w := by
    unfold execOp
    simp only [ho, resolve, invoke, Sem.run_bind, List.map_toArray, List.map_cons, List.map_nil, hf, hx]
    simpa [go_sem] using hrun
  rw [hr, Oper.uponIn_round]
  refine ⟨(fun h => by cases h), ?_⟩
  have hR' : RoundIn Fence.wide (n - 1) P l fn tmps assign body w R := ⟨hR.1, fun c cs _ => hR.2 c cs (room_wide _)⟩
  refine hR'.mono fun e w' he => ?_
  obtain ⟨u, rfl, hu⟩ := h e w' he
  exact hK _ _ hu
end

/-- A range over a function: S: the blocks that its body writes; IT: those that the iterator writes; I: what holds behind so many rounds. -/
theorem wp_rangeFuncT {P : Program} {g : Operand} {ps : Array Tmp} {assign body : Code} {Q : Exit → Act → World → Prop} {a : Act} {w : World}
    {gf : Nat} {lb : Array Value} (hg : a.eval g = .func (.func gf) #[] lb) (eg : ∀ args w, (callFunc gf args).run P w = .ok (.enter gf args) w)
    (args : Nat → Array Value) (hps : ∀ j, (args j).size = ps.size) (N : Nat) (S IT : Nat → Prop) (hS : ∀ k, S k → k < w.heap.size) (hIT : ∀ k, IT k → k < w.heap.size)
    (I : Nat → World → Prop) (hI : ∀ j W W', I j W → Turn (fun k => IT k ∨ w.heap.size ≤ k) W W' → I j W')
    (hseq : ∀ (l : Nat) (J : Nat → World → Prop) (W1 : World), w.heap.size ≤ l → Pure w W1 → (∀ j W W', J j W → Turn IT W W' → J j W') →
      (∀ j W, j < N → J j W → YieldAt Fence.wide 0 P l (args j) W fun e W' => e = .returned (.bool true) ∧ J (j + 1) W' ∧ Turn (fun k => S k ∨ w.heap.size ≤ k) W W') → J 0 W1 →
      CallsIn Fence.wide 0 P gf (#[.func (.yield l) #[] #[]] ++ lb) W1 fun e W' => (∃ v, e = .returned v) ∧ J N W')
    (h0 : I 0 w)
    (hround : ∀ (l j : Nat) (W : World), w.heap.size ≤ l → l < W.heap.size → j < N → I j W →
      assign.wpIn (Fence.wide.inRound l) 0 P (Exit.then (fun a₁ W₁ => Turn S W W₁ ∧ ∀ W₂, Turn (fun k => k = l) W₁ W₂ →
        body.wpIn (Fence.wide.inRound l) 0 P (fun e _ W₃ => e = .normal ∧ Turn S W₂ W₃ ∧ I (j + 1) W₃) a₁ W₂) (fun _ _ _ => False))
        { tmps := (ps.zip (args j)).foldl (fun t (p, v) => t.setIfInBounds p v) a.tmps, defers := [] } W)
    (hdone : ∀ (D : Nat) (W : World), w.heap.size ≤ D → I N W → W.heap[D]? = some (.deferred (some [])) → Q .normal { a with defers := { target := .collected D, args := #[] } :: a.defers } W) :
    (Code.rangeFunc g ps assign body).wp P Q a w := by
  refine (wpIn_wide (n := 0)).1 (wpIn_rangeFunc ?_)
  intro fn hfn
  obtain ⟨rec, hrec⟩ : ∃ rec : LoopState → Option Code → Loop, rec = fun st pe => { state := st, pending := pe, fn, tmps := a.tmps, params := ps, assign, body, defers := w.heap.size } := ⟨_, rfl⟩
  obtain ⟨W1, hW1⟩ : ∃ W1, (w.alloc (.deferred (some []))).alloc (.loop (rec .ready none)) = W1 := ⟨_, rfl⟩
  have hL1 : W1.heap[w.heap.size + 1]? = some (.loop (rec .ready none)) := by
    rw [← hW1]; have := World.alloc_heap_new (w.alloc (.deferred (some []))) (.loop (rec .ready none)); rwa [World.size_alloc] at this
  have hK1 : W1.heap[w.heap.size]? = some (.deferred (some [])) := by
    rw [← hW1]; exact (Below.heap_alloc _ _ _ (by simp)).trans (World.alloc_heap_new w _)
  have hP1 : Pure w W1 := by rw [← hW1]; exact ((Turn.refl _ _).alloc _).alloc _
  have put : ∀ (W : World) (o : Obj), Turn (fun k => k = w.heap.size + 1) W (W.putObj (w.heap.size + 1) o) := fun W o =>
    ⟨rfl, rfl, rfl, by simp, fun k _ hk => World.putObj_heap_other hk⟩
  have hIput : ∀ j W o, I j W → I j (W.putObj (w.heap.size + 1) o) := fun j W o h => hI j _ _ h ((put W o).mono fun k _ e => Or.inr (by omega))
  refine ⟨w.heap.size + 1, [{ target := .collected w.heap.size, args := #[] }], W1, { target := .fn (.func gf) lb, args := #[.func (.yield (w.heap.size + 1)) #[] #[]] }, W1, gf,
    #[.func (.yield (w.heap.size + 1)) #[] #[]] ++ lb, W1, ?_, ?_, ?_, ?_, fun h => (by cases h), ?_⟩
  · rw [← hW1, hrec]; exact run_enterLoop_outer _ _ _ _ _
  · simp only [resolve, hg]
    simp [go_sem]
  · intro f' hf'; trivial
  · simp [invoke, go_sem, eg]
  · refine (hseq (w.heap.size + 1) (fun j W => I j W ∧ W.heap[w.heap.size + 1]? = some (.loop (rec .ready none)) ∧ W.heap[w.heap.size]? = some (.deferred (some []))) W1 (by omega) hP1 ?_ ?_ ⟨hI 0 _ _ h0 (hP1.mono fun _ _ e => e.elim), hL1, hK1⟩).mono ?_
    · rintro j W W' ⟨h1, h2, h3⟩ ht
      exact ⟨hI j _ _ h1 (ht.mono fun k _ hk => Or.inl hk), ht.obj h2 (fun hk => by have := hIT _ hk; omega), ht.obj h3 (fun hk => by have := hIT _ hk; omega)⟩
    · rintro j W hj ⟨hi, hl, hk⟩
      have hlt : w.heap.size + 1 < W.heap.size := (Array.getElem?_eq_some_iff.1 hl).1
      have hy := run_yield (P := P) (args := args j) hl (by rw [hrec]; exact hps j)
      rw [hrec] at hy
      refine ⟨fn, _, assign, body, hy, roundIn_of_wpIn hfn ?_⟩
      refine wpIn_mono (hround (w.heap.size + 1) j W (by omega) hlt hj hi) ?_
      rintro e a₁ W₁ hp
      cases e with
      | normal =>
        obtain ⟨ht, hb⟩ := hp
        have hl1 := ht.obj hl (fun hk => by have := hS _ hk; omega)
        have hk1 := ht.obj hk (fun hk => by have := hS _ hk; omega)
        have hlt1 : w.heap.size + 1 < W₁.heap.size := (Array.getElem?_eq_some_iff.1 hl1).1
        refine ⟨_, run_beginRound hl1 (by rw [hrec]), ?_⟩
        have hl2 : (W₁.putObj (w.heap.size + 1) (.loop { rec .ready none with state := .busy })).heap[w.heap.size + 1]? = some (.loop { rec .ready none with state := .busy }) := World.putObj_heap_same hlt1
        have hk2 : (W₁.putObj (w.heap.size + 1) (.loop { rec .ready none with state := .busy })).heap[w.heap.size]? = some (.deferred (some [])) := (World.putObj_heap_other (by omega)).trans hk1
        refine wpIn_mono (hb _ (put W₁ _)) ?_
        rintro e a3 W3 ⟨rfl, ht3, hi3⟩
        have hl3 := ht3.obj hl2 (fun hk => by have := hS _ hk; omega)
        have hk3 := ht3.obj hk2 (fun hk => by have := hS _ hk; omega)
        refine ⟨_, _, run_endRound (P := P) none hl3, rfl, ⟨hIput _ _ _ hi3, ?_, (World.putObj_heap_other (by omega)).trans hk3⟩, ?_⟩
        · rw [World.putObj_heap_same (Array.getElem?_eq_some_iff.1 hl3).1, hrec]; rfl
        · have t1 : Turn (fun k => S k ∨ w.heap.size ≤ k) W W₁ := ht.mono fun k _ h => Or.inl h
          have t2 := t1.trans (put W₁ (.loop { rec .ready none with state := .busy })) fun k _ e => Or.inr (by omega)
          have t3 := t2.trans ht3 fun k _ h => Or.inl h
          exact t3.trans (put W3 _) fun k _ e => Or.inr (by omega)
      | _ => exact hp.elim
    · rintro e W2 ⟨⟨v, rfl⟩, hi, hl, hk⟩
      exact ⟨none, _, by have := run_endLoop (P := P) hl (by rw [hrec]; simp); rw [hrec] at this; exact this, hdone _ _ (Nat.le_refl _) (hIput _ _ _ hi) ((World.putObj_heap_other (by omega)).trans hk)⟩
theorem zip_one (p : Tmp) (v : Value) (t : Array Value) : ((#[p] : Array Tmp).zip #[v]).foldl (fun t (p, v) => t.setIfInBounds p v) t = t.setIfInBounds p v := by simp
theorem zip_two (p q : Tmp) (v u : Value) (t : Array Value) : ((#[p, q] : Array Tmp).zip #[v, u]).foldl (fun t (p, v) => t.setIfInBounds p v) t = (t.setIfInBounds p v).setIfInBounds q u := by simp
/-- A function that holds a range over a function. -/
theorem calls_of_wp_marks {P : Program} {f : FuncId} {fn : Func} {c : Code} {args : Array Value} {w : World} {R : Ending → World → Prop} (hf : P.funcs[f]? = some fn) (hb : fn.body = some c)
    (h : c.wp P (calmQ (bodyPostM Fence.wide 0 P fn R)) { tmps := args ++ Array.replicate (fn.ntmps - args.size) undef, defers := [] } w) : Calls P f args w R :=
  (callsIn_wide (n := 0)).1 (callsIn_of_wp_marks hf hb trivial (wpIn_wide.2 (wp_calm h)) rfl)
/-- Its return, where the range has been gone through. -/
theorem marks_ret {P : Program} {fn : Func} {R : Ending → World → Prop} {tmps : Array Value} {w : World} {D : Nat} {v : Value} (hD : w.heap[D]? = some (.deferred (some [])))
    (hr : (results fn tmps).run P (w.putObj D (.deferred none)) = .ok v (w.putObj D (.deferred none))) (h : R (.returned v) (w.putObj D (.deferred none))) :
    calmQ (bodyPostM Fence.wide 0 P fn R) .ret { tmps, defers := [{ target := .collected D, args := #[] }] } w :=
  ⟨by simp, .inl ⟨_, _, rfl, run_takeDeferred hD, ⟨v, hr, h⟩⟩⟩
theorem marks_ret0 {P : Program} {fn : Func} {R : Ending → World → Prop} {tmps : Array Value} {w : World} {v : Value}
    (hr : (results fn tmps).run P w = .ok v w) (h : R (.returned v) w) : calmQ (bodyPostM Fence.wide 0 P fn R) .ret { tmps, defers := [] } w := ⟨v, hr, h⟩
theorem putObj_turn (w : World) (D : Nat) (o : Obj) : Turn (fun k => k = D) w (w.putObj D o) := ⟨rfl, rfl, rfl, by simp, fun _ _ hk => World.putObj_heap_other hk⟩
/-- Results: one, one that lies in memory, one. -/
theorem results_tct {P : Program} {fn : Func} {p q u : Tmp} {ty : TypeId} (h : fn.results = #[.tmp p, .cell q ty, .tmp u]) (tmps : Array Value) (w : World) (g : Nat) (t : TypeId) (cs : Array Value) (fr : Nat × Nat) (d : TypeDesc)
    (hp : tmps.getD q undef = .pointer (some ⟨g, 0, none⟩)) (hg : w.heap[g]? = some (.cells cs t fr))
    (hu : P.underlying ty = some d) (hd : (match d with | .struct _ | .array _ _ => true | _ => false) = true) (hi : (P.info? ty).map (·.size) = some cs.size) :
    (results fn tmps).run P w = .ok (.tuple #[tmps.getD p undef, .agg cs, tmps.getD u undef]) w := by
  have hp' : tmps[q]?.getD undef = .pointer (some ⟨g, 0, none⟩) := by rw [← Array.getD_eq_getD_getElem?]; exact hp
  have hl := run_loadVar_row (P := P) w g t ty cs fr d hg hu hd hi
  simp only [results, h]
  simp [Result.andThen, asAddr, hp', hl]

/-- A range over a function whose body may write blocks that were laid in earlier rounds: S names all but the loop's own two. -/
theorem wp_rangeFuncU {P : Program} {g : Operand} {ps : Array Tmp} {assign body : Code} {Q : Exit → Act → World → Prop} {a : Act} {w : World}
    {gf : Nat} {lb : Array Value} (hg : a.eval g = .func (.func gf) #[] lb) (eg : ∀ args w, (callFunc gf args).run P w = .ok (.enter gf args) w)
    (args : Nat → Array Value) (hps : ∀ j, (args j).size = ps.size) (N : Nat) (S IT : Nat → Prop) (hS : ∀ k, S k → k ≠ w.heap.size ∧ k ≠ w.heap.size + 1) (hIT : ∀ k, IT k → k < w.heap.size)
    (I : Nat → World → Prop) (hI : ∀ j W W', I j W → Turn (fun k => IT k ∨ k = w.heap.size + 1) W W' → I j W')
    (hseq : ∀ (l : Nat) (J : Nat → World → Prop) (W1 : World), w.heap.size ≤ l → Pure w W1 → (∀ j W W', J j W → Turn IT W W' → J j W') →
      (∀ j W, j < N → J j W → YieldAt Fence.wide 0 P l (args j) W fun e W' => e = .returned (.bool true) ∧ J (j + 1) W' ∧ Turn (fun k => S k ∨ w.heap.size ≤ k) W W') → J 0 W1 →
      CallsIn Fence.wide 0 P gf (#[.func (.yield l) #[] #[]] ++ lb) W1 fun e W' => (∃ v, e = .returned v) ∧ J N W')
    (h0 : I 0 w)
    (hround : ∀ (l j : Nat) (W : World), l = w.heap.size + 1 → l < W.heap.size → j < N → I j W →
      assign.wpIn (Fence.wide.inRound l) 0 P (Exit.then (fun a₁ W₁ => Turn S W W₁ ∧ ∀ W₂, Turn (fun k => k = l) W₁ W₂ →
        body.wpIn (Fence.wide.inRound l) 0 P (fun e _ W₃ => e = .normal ∧ Turn S W₂ W₃ ∧ I (j + 1) W₃) a₁ W₂) (fun _ _ _ => False))
        { tmps := (ps.zip (args j)).foldl (fun t (p, v) => t.setIfInBounds p v) a.tmps, defers := [] } W)
    (hdone : ∀ (D : Nat) (W : World), D = w.heap.size → I N W → W.heap[D]? = some (.deferred (some [])) → Q .normal { a with defers := { target := .collected D, args := #[] } :: a.defers } W) :
    (Code.rangeFunc g ps assign body).wp P Q a w := by
  refine (wpIn_wide (n := 0)).1 (wpIn_rangeFunc ?_)
  intro fn hfn
  obtain ⟨rec, hrec⟩ : ∃ rec : LoopState → Option Code → Loop, rec = fun st pe => { state := st, pending := pe, fn, tmps := a.tmps, params := ps, assign, body, defers := w.heap.size } := ⟨_, rfl⟩
  obtain ⟨W1, hW1⟩ : ∃ W1, (w.alloc (.deferred (some []))).alloc (.loop (rec .ready none)) = W1 := ⟨_, rfl⟩
  have hL1 : W1.heap[w.heap.size + 1]? = some (.loop (rec .ready none)) := by
    rw [← hW1]; have := World.alloc_heap_new (w.alloc (.deferred (some []))) (.loop (rec .ready none)); rwa [World.size_alloc] at this
  have hK1 : W1.heap[w.heap.size]? = some (.deferred (some [])) := by
    rw [← hW1]; exact (Below.heap_alloc _ _ _ (by simp)).trans (World.alloc_heap_new w _)
  have hP1 : Pure w W1 := by rw [← hW1]; exact ((Turn.refl _ _).alloc _).alloc _
  have put : ∀ (W : World) (o : Obj), Turn (fun k => k = w.heap.size + 1) W (W.putObj (w.heap.size + 1) o) := fun W o =>
    ⟨rfl, rfl, rfl, by simp, fun k _ hk => World.putObj_heap_other hk⟩
  have hIput : ∀ j W o, I j W → I j (W.putObj (w.heap.size + 1) o) := fun j W o h => hI j _ _ h ((put W o).mono fun k _ e => Or.inr (by omega))
  refine ⟨w.heap.size + 1, [{ target := .collected w.heap.size, args := #[] }], W1, { target := .fn (.func gf) lb, args := #[.func (.yield (w.heap.size + 1)) #[] #[]] }, W1, gf,
    #[.func (.yield (w.heap.size + 1)) #[] #[]] ++ lb, W1, ?_, ?_, ?_, ?_, fun h => (by cases h), ?_⟩
  · rw [← hW1, hrec]; exact run_enterLoop_outer _ _ _ _ _
  · simp only [resolve, hg]
    simp [go_sem]
  · intro f' hf'; trivial
  · simp [invoke, go_sem, eg]
  · refine (hseq (w.heap.size + 1) (fun j W => I j W ∧ W.heap[w.heap.size + 1]? = some (.loop (rec .ready none)) ∧ W.heap[w.heap.size]? = some (.deferred (some []))) W1 (by omega) hP1 ?_ ?_ ⟨hI 0 _ _ h0 (hP1.mono fun _ _ e => e.elim), hL1, hK1⟩).mono ?_
    · rintro j W W' ⟨h1, h2, h3⟩ ht
      exact ⟨hI j _ _ h1 (ht.mono fun k _ hk => Or.inl hk), ht.obj h2 (fun hk => by have := hIT _ hk; omega), ht.obj h3 (fun hk => by have := hIT _ hk; omega)⟩
    · rintro j W hj ⟨hi, hl, hk⟩
      have hlt : w.heap.size + 1 < W.heap.size := (Array.getElem?_eq_some_iff.1 hl).1
      have hy := run_yield (P := P) (args := args j) hl (by rw [hrec]; exact hps j)
      rw [hrec] at hy
      refine ⟨fn, _, assign, body, hy, roundIn_of_wpIn hfn ?_⟩
      refine wpIn_mono (hround (w.heap.size + 1) j W rfl hlt hj hi) ?_
      rintro e a₁ W₁ hp
      cases e with
      | normal =>
        obtain ⟨ht, hb⟩ := hp
        have hl1 := ht.obj hl (fun hk => by have := hS _ hk; omega)
        have hk1 := ht.obj hk (fun hk => by have := hS _ hk; omega)
        have hlt1 : w.heap.size + 1 < W₁.heap.size := (Array.getElem?_eq_some_iff.1 hl1).1
        refine ⟨_, run_beginRound hl1 (by rw [hrec]), ?_⟩
        have hl2 : (W₁.putObj (w.heap.size + 1) (.loop { rec .ready none with state := .busy })).heap[w.heap.size + 1]? = some (.loop { rec .ready none with state := .busy }) := World.putObj_heap_same hlt1
        have hk2 : (W₁.putObj (w.heap.size + 1) (.loop { rec .ready none with state := .busy })).heap[w.heap.size]? = some (.deferred (some [])) := (World.putObj_heap_other (by omega)).trans hk1
        refine wpIn_mono (hb _ (put W₁ _)) ?_
        rintro e a3 W3 ⟨rfl, ht3, hi3⟩
        have hl3 := ht3.obj hl2 (fun hk => by have := hS _ hk; omega)
        have hk3 := ht3.obj hk2 (fun hk => by have := hS _ hk; omega)
        refine ⟨_, _, run_endRound (P := P) none hl3, rfl, ⟨hIput _ _ _ hi3, ?_, (World.putObj_heap_other (by omega)).trans hk3⟩, ?_⟩
        · rw [World.putObj_heap_same (Array.getElem?_eq_some_iff.1 hl3).1, hrec]; rfl
        · have t1 : Turn (fun k => S k ∨ w.heap.size ≤ k) W W₁ := ht.mono fun k _ h => Or.inl h
          have t2 := t1.trans (put W₁ (.loop { rec .ready none with state := .busy })) fun k _ e => Or.inr (by omega)
          have t3 := t2.trans ht3 fun k _ h => Or.inl h
          exact t3.trans (put W3 _) fun k _ e => Or.inr (by omega)
      | _ => exact hp.elim
    · rintro e W2 ⟨⟨v, rfl⟩, hi, hl, hk⟩
      exact ⟨none, _, by have := run_endLoop (P := P) hl (by rw [hrec]; simp); rw [hrec] at this; exact this, hdone _ _ rfl (hIput _ _ _ hi) ((World.putObj_heap_other (by omega)).trans hk)⟩
end Go.Proofs.Ytcfbmbhkdicpfaa
