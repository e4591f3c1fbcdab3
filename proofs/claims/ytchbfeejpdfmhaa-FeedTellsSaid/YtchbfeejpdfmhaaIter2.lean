import Derived.Test.YtchbfeejpdfmhaaLines
import Derived.Maps.OwnIn
import Derived.Maps.AppendAt
/-! Loops over iterators: what rows and blocks do when a loop's record turns; append in a fence. -/
set_option linter.unusedSimpArgs false
set_option linter.unusedVariables false
namespace Go.Proofs.Ytchbfeejpdfmhaa
open Go.RowKit Go.Shelf Go.Proofs.YtchbfeejpdfmhaaW.PrintWords Go.Proofs.YtchbfeejpdfmhaaW.PrintLast Go.Proofs.YtchbfeejpdfmhaaW.PrintMore
attribute [local go_sem] Oper.semAt_some

/-- append(v, x) of a row of one's own, in a fence. -/
theorem appendIn {α : Type} (d : Kd α) {F : Fence} {nF : Nat} {P : Program} {W : World} {ops : Array Oper} {rest : List Oper} {o : Oper} {a : Act} {Q : Exit → Act → World → Prop} (base : Nat) (hgd : o.guard = none) (s x : Operand) (t e : TypeId) (z : Value) (bytes : Nat)
    (ho : o.op = .call { callee := .builtin .append, args := #[s, x], argTypes := #[t, t] })
    (ht : P.underlying t = some (.slice e)) (hinfo : (P.info? e).map (fun i => (i.zero, i.size, i.bytes)) = some (some z, d.sz, bytes)) (hz : z.cells.size = d.sz) (hs0 : 0 < d.sz) (hb0 : 0 < bytes)
    (v : Value) (xs : List α) (p : α) (cs : List Value) (ok okp : Nat → Prop) (hs : a.eval s = v) (hx : a.eval x = .slice (some ⟨W.heap.size, 0, none⟩) 1 1) (hp : d.M W base okp p cs) (hokp : ∀ k, okp k → ok k ∧ some k ≠ v.ownBlock) (hfresh : ∀ k, W.heap.size ≤ k → ok k)
    (HO : d.R e W base ok v xs) (hbase : base ≤ W.heap.size) (hl : (xs.length + 1) * bytes ≤ 140737488355328)
    (h : ∀ v1 w1, d.R e w1 base ok v1 (xs ++ [p]) → W.grownBy w1 v.ownBlock → (v1.ownBlock = v.ownBlock ∨ ∃ b, v1.ownBlock = some b ∧ W.heap.size ≤ b) → wpListIn F nF P ops Q rest (a.put o.dst v1) w1) :
    wpListIn F nF P ops Q (o :: rest) a (W.alloc (.cells cs.toArray e)) := by
  obtain ⟨h0, inner, hown, hr⟩ := HO
  obtain ⟨i0, hi, hzz⟩ := Option.map_eq_some_iff.1 hinfo
  simp only [Prod.mk.injEq] at hzz
  obtain ⟨hz0, hz1, hz2⟩ := hzz
  have hlen : cs.length = d.sz := d.K_len (d.K_of_M hp)
  have hA := below_alloc (Below.refl W.heap.size W) (.cells cs.toArray e)
  refine wpListIn_append_own_at _ hgd s x t ho base e i0 z d.sz bytes ht hi hz0 hz1 hz2 hz hs0 v xs.length inner hs (own_move hown (fun k hk => hA.block k (own_lt hown k hk))) ⟨W.heap.size, 0, none⟩ 1 1 cs hx (by omega) ?_ (d.K_one (d.K_of_M hp)) ?_ hl (by simp; omega) ?_
  · intro j u hu
    rw [add_plain, cell_of_row (W.alloc (.cells cs.toArray e)) W.heap.size j cs.toArray e (0, 0) (heap_alloc_new W _)]
    simpa using hu
  · have h1 : (xs.length + 1) * 1 ≤ (xs.length + 1) * bytes := Nat.mul_le_mul_left _ hb0
    unfold maxLen
    omega
  · intro v1 w1 hown1 hg1 _ hat1
    have hg : W.grownBy w1 v.ownBlock := ⟨hg1.os, hg1.tape, hg1.output, by have := hg1.size; simp at this; omega, fun k hk hne => (hg1.block k (by simp; omega) hne).trans (hA.block k hk)⟩
    have hat : v1.ownBlock = v.ownBlock ∨ ∃ b, v1.ownBlock = some b ∧ W.heap.size ≤ b := by
      rcases hat1 with h1 | h1
      · exact .inl h1
      · exact .inr ⟨_, h1, by simp⟩
    exact h v1 w1 (Kd.R_appended h0 hr hp hokp hfresh hown1 hg hat) hg hat

/-- A block that is no cells may turn. -/
theorem R_turn {α : Type} {d : Kd α} {e base : Nat} {W W1 : World} {ok : Nat → Prop} {v : Value} {xs : List α} {row : Option Nat} (h : d.R e W base ok v xs) (hg : W.grownBy W1 row) (hr : ∀ r, row = some r → ∃ o : Obj, W.heap[r]? = some o ∧ o.isCells = false) : d.R e W1 base ok v xs :=
  Kd.R_mono (Kd.R_move (Kd.R_bound h) (fun k hk => by
    obtain ⟨_, _, hlt, q, _, cells, hc⟩ := hk
    refine hg.block k hlt (fun he => ?_)
    obtain ⟨o, ho, hf⟩ := hr k he.symm
    rw [hc] at ho
    cases ho
    cases hf)) (fun _ hk => hk.1)
theorem Turned.grown {W W1 : World} {l : Nat} (h : Turned W W1 l) : W.grownBy W1 (some l) := by
  obtain ⟨o, rfl⟩ := h.eq
  exact grownBy_putObj' W l o
theorem Turned.R {α : Type} {d : Kd α} {e base : Nat} {W W1 : World} {l : Nat} {ok : Nat → Prop} {v : Value} {xs : List α} (hT : Turned W W1 l) (h : d.R e W base ok v xs) : d.R e W1 base ok v xs :=
  R_turn h hT.grown (fun r he => by cases he; exact hT.was)
theorem Turned.blk {W W1 : World} {l g : Nat} {cs : Array Value} {t : TypeId} (hT : Turned W W1 l) (h : Blk W g cs t) : Blk W1 g cs t :=
  h.grown hT.grown (fun he => by
    cases he
    obtain ⟨o, ho, hf⟩ := hT.was
    rw [h.out] at ho
    cases ho
    cases hf)
end Go.Proofs.Ytchbfeejpdfmhaa
/-! Loops over iterators, the second way: the loop's body owns blocks (G); what it does not own it leaves alone; what the iterator does leaves G alone. -/
set_option linter.unusedSimpArgs false
set_option linter.unusedVariables false
namespace Go.Proofs.Ytchbfeejpdfmhaa
open Go.RowKit Go.Shelf

/-- All below n1, and what is owned, stays. -/
structure Stays (n1 : Nat) (G : Nat → Prop) (W W' : World) : Prop where
  os : W'.os = W.os
  tape : W'.tape = W.tape
  output : W'.output = W.output
  size : W.heap.size ≤ W'.heap.size
  block : ∀ k, k < W.heap.size → (k < n1 ∨ G k) → W'.heap[k]? = W.heap[k]?
/-- What is not owned stays. -/
structure Moves (G : Nat → Prop) (W W' : World) : Prop where
  os : W'.os = W.os
  tape : W'.tape = W.tape
  output : W'.output = W.output
  size : W.heap.size ≤ W'.heap.size
  block : ∀ k, k < W.heap.size → ¬ G k → W'.heap[k]? = W.heap[k]?
theorem Moves.refl (G : Nat → Prop) (W : World) : Moves G W W := ⟨rfl, rfl, rfl, Nat.le_refl _, fun _ _ _ => rfl⟩
theorem Moves.of_below {G : Nat → Prop} {W W' : World} (h : Below W.heap.size W W') : Moves G W W' := ⟨h.os, h.tape, h.output, h.size, fun k hk _ => h.block k hk⟩
theorem Moves.mono {G G' : Nat → Prop} {W W' : World} (h : Moves G W W') (hg : ∀ k, G k → G' k) : Moves G' W W' := ⟨h.os, h.tape, h.output, h.size, fun k hk hn => h.block k hk (fun hG => hn (hg k hG))⟩
theorem Moves.trans {G G' : Nat → Prop} {A B C : World} (h : Moves G A B) (h' : Moves G' B C) (hg : ∀ k, k < A.heap.size → G' k → G k) : Moves G A C :=
  ⟨h'.os.trans h.os, h'.tape.trans h.tape, h'.output.trans h.output, Nat.le_trans h.size h'.size, fun k hk hn => (h'.block k (Nat.lt_of_lt_of_le hk h.size) (fun hG => hn (hg k hk hG))).trans (h.block k hk hn)⟩
theorem Moves.below {G : Nat → Prop} {W W' : World} (h : Moves G W W') {B : Nat} (hB : B ≤ W.heap.size) (hG : ∀ k, G k → B ≤ k) : Below B W W' :=
  ⟨h.os, h.tape, h.output, h.size, fun k hk => h.block k (by omega) (fun hg => by have := hG k hg; omega)⟩
theorem Moves.setCell {G : Nat → Prop} (W : World) (p : Addr) (u : Value) (hp : G p.block) : Moves G W (W.setCell p u) :=
  have h0 := (Below.refl 0 W).setCell (p := p) (Nat.zero_le _) u
  ⟨h0.os, h0.tape, h0.output, h0.size, fun k _ hn => Below.heap_setCell W p u k (fun e => hn (e ▸ hp))⟩
theorem Moves.grown {G : Nat → Prop} {W W' : World} {row : Option Nat} (h : W.grownBy W' row) (hr : ∀ k, row = some k → G k) : Moves G W W' :=
  ⟨h.os, h.tape, h.output, h.size, fun k hk hn => h.block k hk (fun e => hn (hr k e.symm))⟩
theorem Stays.of_below {G : Nat → Prop} {n1 : Nat} {W W' : World} (h : Below W.heap.size W W') : Stays n1 G W W' := ⟨h.os, h.tape, h.output, h.size, fun k hk _ => h.block k hk⟩
theorem Stays.of_put {G : Nat → Prop} {n1 : Nat} {W : World} {l : Nat} (o : Obj) (h1 : n1 ≤ l) (h2 : ¬ G l) : Stays n1 G W (W.putObj l o) := by
  have hg := grownBy_putObj' W l o
  exact ⟨hg.os, hg.tape, hg.output, hg.size, fun k hk hs => hg.block k hk (fun e => by
    cases e
    rcases hs with hs | hs
    · omega
    · exact h2 hs)⟩
theorem Stays.set {G : Nat → Prop} {n1 : Nat} (W : World) (p : Addr) (u : Value) (h1 : n1 ≤ p.block) (h2 : ¬ G p.block) : Stays n1 G W (W.setCell p u) :=
  have h0 := (Below.refl 0 W).setCell (p := p) (Nat.zero_le _) u
  ⟨h0.os, h0.tape, h0.output, h0.size, fun k _ hs => Below.heap_setCell W p u k (fun e => by
    subst e
    rcases hs with hs | hs
    · omega
    · exact h2 hs)⟩
theorem Stays.trans {G : Nat → Prop} {n1 : Nat} {A B C : World} (h : Stays n1 G A B) (h' : Stays n1 G B C) : Stays n1 G A C :=
  ⟨h'.os.trans h.os, h'.tape.trans h.tape, h'.output.trans h.output, Nat.le_trans h.size h'.size, fun k hk hs => (h'.block k (Nat.lt_of_lt_of_le hk h.size) hs).trans (h.block k hk hs)⟩
theorem Stays.mono {G G' : Nat → Prop} {n1 n2 : Nat} {W W' : World} (h : Stays n1 G W W') (hn : n2 ≤ n1) (hg : ∀ k, G' k → G k) : Stays n2 G' W W' :=
  ⟨h.os, h.tape, h.output, h.size, fun k hk hs => h.block k hk (hs.elim (fun h => .inl (by omega)) (fun h => .inr (hg k h)))⟩
/-- What is told of G, and of what has been handed over, abides whatever leaves these, and all below n1, alone. -/
def Stable {α : Type} (Hand : α → Nat → Prop) (n1 : Nat) (J : (Nat → Prop) → List α → World → Prop) : Prop := ∀ G pre W W', J G pre W → Stays n1 (fun k => G k ∨ ∃ x ∈ pre, Hand x k) W W' → J G pre W'
theorem Stable.mono {α : Type} {Hand : α → Nat → Prop} {n1 n2 : Nat} {J : (Nat → Prop) → List α → World → Prop} (h : Stable Hand n1 J) (hn : n1 ≤ n2) : Stable Hand n2 J := fun G pre W W' hj hs => h G pre W W' hj (hs.mono hn (fun _ h => h))
/-- What a round leaves of what is owned. -/
def Grows (G G' : Nat → Prop) (W1 W2 : World) : Prop := ∀ k, G' k → k < W2.heap.size ∧ (G k ∨ W1.heap.size ≤ k)

section
variable {α : Type} {P : Program}
/-- An iterator: its rounds are told 'Good'; what is handed over (Hand) is the body's own from then on; Cap: what nobody writes. -/
def Seq2 (P : Program) (gf : Nat) (lb : Array Value) (encs : α → Array Value) (Good : List α → α → World → Prop) (Hand : α → Nat → Prop) (Cap : Nat → Prop) (S Sp : List α → Prop) (w : World) : Prop :=
  ∀ (l : Nat) (J Jx : (Nat → Prop) → List α → World → Prop) (W : World) (G0 : Nat → Prop), Below w.heap.size w W → (∀ k, G0 k → k < W.heap.size ∧ ¬ Cap k) → Stable Hand W.heap.size J → Stable Hand W.heap.size Jx →
    (∀ G pre x W1, J G pre W1 → (∀ k, G k → k < W1.heap.size ∧ ¬ Cap k) → Good pre x W1 → (∀ k, Hand x k → ¬ G k ∧ k < W1.heap.size) → YieldAt Fence.wide 9 P l (encs x) W1 fun e W2 =>
      ∃ G', Moves G W1 W2 ∧ Grows G G' W1 W2 ∧ ((e = .returned (.bool true) ∧ J G' (pre ++ [x]) W2) ∨ (e = .returned (.bool false) ∧ Jx G' (pre ++ [x]) W2))) →
    J G0 [] W →
    CallsIn Fence.wide 9 P gf (#[.func (.yield l) #[] #[]] ++ lb) W fun e W2 => (∃ v, e = .returned v) ∧ ((∃ xs G, S xs ∧ J G xs W2) ∨ (∃ pre G, Sp pre ∧ Jx G pre W2))

/-- How a round may end. -/
def RoundEnd2 (I : (Nat → Prop) → List α → World → Prop) (Ix : Code → (Nat → Prop) → List α → World → Prop) (G : Nat → Prop) (xs : List α) (W W1 : World) : Exit → Act → World → Prop
  | .normal, _, W2 => ∃ G', Moves G W1 W2 ∧ Grows G G' W W2 ∧ I G' xs W2
  | .ret, _, W2 => ∃ G', Moves G W1 W2 ∧ Grows G G' W W2 ∧ Ix .ret G' xs W2
  | .exit id, _, W2 => ∃ G', Moves G W1 W2 ∧ Grows G G' W W2 ∧ Ix (.exit id) G' xs W2
  | .goto t, _, W2 => ∃ G', Moves G W1 W2 ∧ Grows G G' W W2 ∧ Ix (.goto t) G' xs W2
  | .panic _, _, _ => False
  | .outgrown, _, _ => False

theorem range_seq2 {g : Operand} {ps : Array Tmp} {assign body : Code} {Q : Exit → Act → World → Prop} {a : Act} {w : World}
    {gf : Nat} {lb : Array Value} (hg : a.eval g = .func (.func gf) #[] lb) (eg : ∀ args w, (callFunc gf args).run P w = .ok (.enter gf args) w)
    {encs : α → Array Value} {Good : List α → α → World → Prop} {Hand : α → Nat → Prop} {Cap : Nat → Prop} {S Sp : List α → Prop} (hseq : Seq2 P gf lb encs Good Hand Cap S Sp w)
    (hps : ∀ x, (encs x).size = ps.size) (hcap : ∀ k, Cap k → k < w.heap.size)
    (I : (Nat → Prop) → List α → World → Prop) (Ix : Code → (Nat → Prop) → List α → World → Prop) (hI : Stable Hand w.heap.size I) (hIx : ∀ c, Stable Hand w.heap.size (Ix c)) (G0 : Nat → Prop) (hG0 : ∀ k, G0 k → k < w.heap.size ∧ ¬ Cap k) (h0 : I G0 [] w)
    (hround : ∀ (l : Nat) (G : Nat → Prop) (pre : List α) (x : α) (W : World), w.heap.size < l → l < W.heap.size → (∀ k, G k → k < W.heap.size ∧ ¬ Cap k ∧ k ≠ l ∧ k ≠ w.heap.size) → I G pre W → Good pre x W → (∀ k, Hand x k → ¬ G k ∧ k ≠ l ∧ k ≠ w.heap.size ∧ k < W.heap.size) → (∀ k, (∃ z ∈ pre, Hand z k) → k ≠ l ∧ k ≠ w.heap.size) →
      assign.wpIn (Fence.wide.inRound l) 9 P (Exit.then (fun a1 W1 => Moves G W W1 ∧ ∀ W2, W2.heap[l]?.isSome → (∃ o, W2 = W1.putObj l o) → (∀ k o, W1.heap[k]? = some o → o.isCells = true → k ≠ l) → body.wpIn (Fence.wide.inRound l) 9 P (RoundEnd2 I Ix G (pre ++ [x]) W W2) a1 W2) (fun _ _ _ => False))
        { tmps := (ps.zip (encs x)).foldl (fun t (p, v) => t.setIfInBounds p v) a.tmps, defers := [] } W)
    (hdone : ∀ (G : Nat → Prop) (xs : List α) (W : World), S xs → I G xs W → (∀ k, (G k ∨ ∃ x ∈ xs, Hand x k) → k ≠ w.heap.size) → W.heap[w.heap.size]? = some (.deferred (some [])) → Q .normal { a with defers := { target := .collected w.heap.size, args := #[] } :: a.defers } W)
    (hstop : ∀ (G : Nat → Prop) (c : Code) (pre : List α) (W : World), Sp pre → Ix c G pre W → (∀ k, (G k ∨ ∃ x ∈ pre, Hand x k) → k ≠ w.heap.size) → W.heap[w.heap.size]? = some (.deferred (some [])) → c.wpIn Fence.wide 9 P Q { a with defers := { target := .collected w.heap.size, args := #[] } :: a.defers } W) :
    (Code.rangeFunc g ps assign body).wpIn Fence.wide 9 P Q a w := by
  refine wpIn_rangeFunc fun fn hfn => ?_
  rw [show Fence.wide.round = none from rfl]
  obtain ⟨R, hR⟩ : ∃ R : LoopState → Option Code → Loop, ∀ st pe, R st pe = { state := st, pending := pe, fn, tmps := a.tmps, params := ps, assign, body, defers := w.heap.size } := ⟨fun st pe => _, fun st pe => rfl⟩
  have hent := run_enterLoop_outer (P := P) (w := w) fn a.tmps ps assign body
  rw [← hR .ready none] at hent
  obtain ⟨V, hV⟩ : ∃ V, (w.alloc (.deferred (some []))).alloc (.loop (R .ready none)) = V := ⟨_, rfl⟩
  have hloop : V.heap[w.heap.size + 1]? = some (.loop (R .ready none)) := by
    rw [← hV]
    simpa [World.size_alloc] using World.alloc_heap_new (w.alloc (.deferred (some []))) (.loop (R .ready none))
  have hdef : V.heap[w.heap.size]? = some (.deferred (some [])) := by
    rw [← hV]
    exact (Below.heap_alloc _ _ _ (by simp)).trans (World.alloc_heap_new w _)
  have hbV : Below w.heap.size w V := by rw [← hV]; exact ((Below.refl _ w).alloc (Nat.le_refl _) _).alloc (by simp) _
  have hIV : I G0 [] V := hI _ _ _ _ h0 (Stays.of_below hbV)
  have hsz : V.heap.size = w.heap.size + 2 := by rw [← hV]; simp
  rw [hV] at hent
  refine ⟨w.heap.size + 1, [{ target := .collected w.heap.size, args := #[] }], V, { target := .fn (.func gf) lb, args := #[.func (.yield (w.heap.size + 1)) #[] #[]] }, V, gf, #[.func (.yield (w.heap.size + 1)) #[] #[]] ++ lb, V, hent, ?_, ?_, ?_, fun h => by simp [Fence.wide] at h, ?_⟩
  · simp only [resolve, hg]
    simp [go_sem]
  · intro f' hf'
    trivial
  · simp [invoke, go_sem, eg]
  refine CallsIn.mono (callsIn_wide.2 (callsIn_wide.1 (hseq (w.heap.size + 1)
    (fun G pre W => ∃ Gi : Nat → Prop, (∀ k, G k ↔ Gi k ∨ k = w.heap.size ∨ k = w.heap.size + 1) ∧ (∀ k, (Gi k ∨ ∃ x ∈ pre, Hand x k) → k ≠ w.heap.size ∧ k ≠ w.heap.size + 1) ∧ I Gi pre W ∧ W.heap[w.heap.size + 1]? = some (.loop (R .ready none)) ∧ W.heap[w.heap.size]? = some (.deferred (some [])))
    (fun G pre W => ∃ Gi : Nat → Prop, (∀ k, G k ↔ Gi k ∨ k = w.heap.size ∨ k = w.heap.size + 1) ∧ (∀ k, (Gi k ∨ ∃ x ∈ pre, Hand x k) → k ≠ w.heap.size ∧ k ≠ w.heap.size + 1) ∧ ∃ c, Ix c Gi pre W ∧ W.heap[w.heap.size + 1]? = some (.loop (R .done (some c))) ∧ W.heap[w.heap.size]? = some (.deferred (some [])))
    V (fun k => G0 k ∨ k = w.heap.size ∨ k = w.heap.size + 1) hbV ?_ ?_ ?_ ?_ ⟨G0, fun k => Iff.rfl, (fun k hk => by
      rcases hk with hk | ⟨_, hm, _⟩
      · exact ⟨by have := (hG0 k hk).1; omega, by have := (hG0 k hk).1; omega⟩
      · cases hm), hIV, hloop, hdef⟩))) ?_
  · rintro k (hk | rfl | rfl)
    · exact ⟨by have := (hG0 k hk).1; omega, (hG0 k hk).2⟩
    · exact ⟨by omega, fun hc => by have := hcap _ hc; omega⟩
    · exact ⟨by omega, fun hc => by have := hcap _ hc; omega⟩
  · rintro G pre A B ⟨Gi, hGi, hne, k1, k2, k3⟩ hst
    have hst' : Stays w.heap.size (fun k => Gi k ∨ ∃ x ∈ pre, Hand x k) A B := hst.mono (by omega) (fun k hk => hk.elim (fun h => .inl ((hGi k).2 (.inl h))) .inr)
    have hl : w.heap.size + 1 < A.heap.size := (Array.getElem?_eq_some_iff.1 k2).1
    exact ⟨Gi, hGi, hne, hI _ _ _ _ k1 hst', (hst.block _ hl (.inr (.inl ((hGi _).2 (.inr (.inr rfl)))))).trans k2, (hst.block _ (by omega) (.inr (.inl ((hGi _).2 (.inr (.inl rfl)))))).trans k3⟩
  · rintro G pre A B ⟨Gi, hGi, hne, c, k1, k2, k3⟩ hst
    have hst' : Stays w.heap.size (fun k => Gi k ∨ ∃ x ∈ pre, Hand x k) A B := hst.mono (by omega) (fun k hk => hk.elim (fun h => .inl ((hGi k).2 (.inl h))) .inr)
    have hl : w.heap.size + 1 < A.heap.size := (Array.getElem?_eq_some_iff.1 k2).1
    exact ⟨Gi, hGi, hne, c, hIx c _ _ _ _ k1 hst', (hst.block _ hl (.inr (.inl ((hGi _).2 (.inr (.inr rfl)))))).trans k2, (hst.block _ (by omega) (.inr (.inl ((hGi _).2 (.inr (.inl rfl)))))).trans k3⟩
  · rintro G pre x W ⟨Gi, hGi, hne, hi, hl, hd⟩ hGW hgood hhand
    have hlt : w.heap.size + 1 < W.heap.size := (Array.getElem?_eq_some_iff.1 hl).1
    have hy := run_yield (P := P) (args := encs x) hl (by rw [hR]; exact hps x)
    rw [hR] at hy
    refine ⟨fn, _, assign, body, hy, roundIn_of_wpIn hfn (wpIn_mono (hround (w.heap.size + 1) Gi pre x W (by omega) hlt (fun k hk => ⟨(hGW k ((hGi k).2 (.inl hk))).1, (hGW k ((hGi k).2 (.inl hk))).2, (hne k (.inl hk)).2, (hne k (.inl hk)).1⟩) hi hgood (fun k hk => ⟨fun h => (hhand k hk).1 ((hGi k).2 (.inl h)), fun h => (hhand k hk).1 ((hGi k).2 (.inr (.inr h))), fun h => (hhand k hk).1 ((hGi k).2 (.inr (.inl h))), (hhand k hk).2⟩) (fun k hk => ⟨(hne k (.inr hk)).2, (hne k (.inr hk)).1⟩)) ?_)⟩
    rintro e a1 W1 hp
    cases e with
    | normal =>
      obtain ⟨hk1, hbody⟩ := hp
      have hl1 := (hk1.block _ hlt (fun h => (hne _ (.inl h)).2 rfl)).trans hl
      have hd1 := (hk1.block _ (by omega) (fun h => (hne _ (.inl h)).1 rfl)).trans hd
      have hlt1 : w.heap.size + 1 < W1.heap.size := (Array.getElem?_eq_some_iff.1 hl1).1
      have hbusy : (Instr.beginRound (w.heap.size + 1)).run P W1 = .ok () (W1.putObj (w.heap.size + 1) (.loop (R .busy none))) := by
        have := run_beginRound (P := P) hl1 (by rw [hR])
        rw [hR] at this ⊢
        exact this
      have hl2 : (W1.putObj (w.heap.size + 1) (.loop (R .busy none))).heap[w.heap.size + 1]? = some (.loop (R .busy none)) := World.putObj_heap_same hlt1
      have hd2 : (W1.putObj (w.heap.size + 1) (.loop (R .busy none))).heap[w.heap.size]? = some (.deferred (some [])) := (World.putObj_heap_other (by omega)).trans hd1
      have hg12 := grownBy_putObj' W1 (w.heap.size + 1) (.loop (R .busy none))
      refine ⟨_, hbusy, wpIn_mono (hbody _ (by rw [hl2]; rfl) ⟨_, rfl⟩ (fun k o ho hc => fun e => by subst e; rw [hl1] at ho; cases ho; cases hc)) ?_⟩
      have fin : ∀ (jump : Option Code) (G' : Nat → Prop) (W3 : World), Moves Gi (W1.putObj (w.heap.size + 1) (.loop (R .busy none))) W3 → Grows Gi G' W W3 →
          (Instr.endRound (w.heap.size + 1) jump).run P W3 = .ok (.bool jump.isNone) (W3.putObj (w.heap.size + 1) (.loop (R (if jump.isNone then .ready else .done) jump))) ∧
          (W3.putObj (w.heap.size + 1) (.loop (R (if jump.isNone then .ready else .done) jump))).heap[w.heap.size + 1]? = some (.loop (R (if jump.isNone then .ready else .done) jump)) ∧
          (W3.putObj (w.heap.size + 1) (.loop (R (if jump.isNone then .ready else .done) jump))).heap[w.heap.size]? = some (.deferred (some [])) ∧
          Moves G W (W3.putObj (w.heap.size + 1) (.loop (R (if jump.isNone then .ready else .done) jump))) ∧
          (∀ k, (G' k ∨ ∃ y ∈ pre ++ [x], Hand y k) → k ≠ w.heap.size ∧ k ≠ w.heap.size + 1) ∧
          Grows G (fun k => G' k ∨ k = w.heap.size ∨ k = w.heap.size + 1) W (W3.putObj (w.heap.size + 1) (.loop (R (if jump.isNone then .ready else .done) jump))) ∧
          Stays w.heap.size (fun k => G' k ∨ ∃ y ∈ pre ++ [x], Hand y k) W3 (W3.putObj (w.heap.size + 1) (.loop (R (if jump.isNone then .ready else .done) jump))) := fun jump G' W3 hk3 hgr => by
        have hs2 : W1.heap.size ≤ (W1.putObj (w.heap.size + 1) (.loop (R .busy none))).heap.size := hg12.size
        have hl3 := (hk3.block _ (by omega) (fun h => (hne _ (.inl h)).2 rfl)).trans hl2
        have hd3 := (hk3.block _ (by omega) (fun h => (hne _ (.inl h)).1 rfl)).trans hd2
        have hrun := run_endRound (P := P) jump hl3
        have hlt3 := (Array.getElem?_eq_some_iff.1 hl3).1
        have hne' : ∀ k, (G' k ∨ ∃ y ∈ pre ++ [x], Hand y k) → k ≠ w.heap.size ∧ k ≠ w.heap.size + 1 := fun k hk => by
          rcases hk with hk | ⟨y, hy1, hy2⟩
          · rcases (hgr k hk).2 with h1 | h1
            · exact hne k (.inl h1)
            · omega
          · rcases List.mem_append.1 hy1 with h1 | h1
            · exact hne k (.inr ⟨y, h1, hy2⟩)
            · rw [List.mem_singleton.1 h1] at hy2
              exact ⟨fun h => (hhand k hy2).1 ((hGi k).2 (.inr (.inl h))), fun h => (hhand k hy2).1 ((hGi k).2 (.inr (.inr h)))⟩
        have hg34 := grownBy_putObj' W3 (w.heap.size + 1) (.loop (R (if jump.isNone then .ready else .done) jump))
        refine ⟨by rw [hrun]; simp only [hR], World.putObj_heap_same hlt3, (World.putObj_heap_other (by omega)).trans hd3, ?_, hne', ?_, ?_⟩
        · refine ⟨hg34.os.trans (hk3.os.trans (hg12.os.trans hk1.os)), hg34.tape.trans (hk3.tape.trans (hg12.tape.trans hk1.tape)), hg34.output.trans (hk3.output.trans (hg12.output.trans hk1.output)), ?_, fun k hk hn => ?_⟩
          · have := hk1.size
            have := hk3.size
            have := hg34.size
            omega
          · have n1 : ¬ Gi k := fun h => hn ((hGi k).2 (.inl h))
            have n2 : k ≠ w.heap.size + 1 := fun h => hn ((hGi k).2 (.inr (.inr h)))
            have := hk1.size
            have := hk3.size
            rw [hg34.block k (by omega) (by simpa using n2), hk3.block k (by omega) n1, hg12.block k (by omega) (by simpa using n2), hk1.block k hk n1]
        · rintro k (hk | rfl | rfl)
          · obtain ⟨h1, h2⟩ := hgr k hk
            refine ⟨Nat.lt_of_lt_of_le h1 hg34.size, ?_⟩
            rcases h2 with h2 | h2
            · exact .inl ((hGi k).2 (.inl h2))
            · exact .inr h2
          · exact ⟨by have := hg34.size; omega, .inl ((hGi _).2 (.inr (.inl rfl)))⟩
          · exact ⟨by have := hg34.size; omega, .inl ((hGi _).2 (.inr (.inr rfl)))⟩
        · exact Stays.of_put _ (by omega) (fun h => (hne' _ h).2 rfl)
      rintro e a3 W3 hp3
      cases e with
      | normal =>
        obtain ⟨G', hk3, hgr, hi3⟩ := hp3
        obtain ⟨hrun, hl4, hd4, hmv, hne', hgr', hst⟩ := fin none G' W3 hk3 hgr
        exact ⟨_, _, hrun, fun k => G' k ∨ k = w.heap.size ∨ k = w.heap.size + 1, hmv, hgr', .inl ⟨rfl, G', fun k => Iff.rfl, hne', hI _ _ _ _ hi3 hst, hl4, hd4⟩⟩
      | ret =>
        obtain ⟨G', hk3, hgr, hi3⟩ := hp3
        obtain ⟨hrun, hl4, hd4, hmv, hne', hgr', hst⟩ := fin (some .ret) G' W3 hk3 hgr
        exact ⟨_, _, hrun, fun k => G' k ∨ k = w.heap.size ∨ k = w.heap.size + 1, hmv, hgr', .inr ⟨rfl, G', fun k => Iff.rfl, hne', .ret, hIx _ _ _ _ _ hi3 hst, hl4, hd4⟩⟩
      | exit id =>
        obtain ⟨G', hk3, hgr, hi3⟩ := hp3
        obtain ⟨hrun, hl4, hd4, hmv, hne', hgr', hst⟩ := fin (some (.exit id)) G' W3 hk3 hgr
        exact ⟨_, _, hrun, fun k => G' k ∨ k = w.heap.size ∨ k = w.heap.size + 1, hmv, hgr', .inr ⟨rfl, G', fun k => Iff.rfl, hne', .exit id, hIx _ _ _ _ _ hi3 hst, hl4, hd4⟩⟩
      | goto t =>
        obtain ⟨G', hk3, hgr, hi3⟩ := hp3
        obtain ⟨hrun, hl4, hd4, hmv, hne', hgr', hst⟩ := fin (some (.goto t)) G' W3 hk3 hgr
        exact ⟨_, _, hrun, fun k => G' k ∨ k = w.heap.size ∨ k = w.heap.size + 1, hmv, hgr', .inr ⟨rfl, G', fun k => Iff.rfl, hne', .goto t, hIx _ _ _ _ _ hi3 hst, hl4, hd4⟩⟩
      | panic ch => exact hp3.elim
      | outgrown => exact hp3.elim
    | exit id => exact hp.elim
    | goto t => exact hp.elim
    | ret => exact hp.elim
    | panic ch => exact hp.elim
    | outgrown => exact hp.elim
  · rintro e W2 ⟨⟨v, rfl⟩, (⟨xs, G, hS, Gi, hGi, hne, hi, hl, hd⟩ | ⟨pre, G, hSp, Gi, hGi, hne, c, hi, hl, hd⟩)⟩
    · have hrun := run_endLoop (P := P) hl (by rw [hR]; simp)
      refine ⟨none, W2.putObj (w.heap.size + 1) (.loop (R .exhausted none)), ?_, hdone Gi xs _ hS (hI _ _ _ _ hi (Stays.of_put _ (by omega) (fun h => (hne _ h).2 rfl))) (fun k hk => (hne k hk).1) ((World.putObj_heap_other (by omega)).trans hd)⟩
      rw [hrun]
      simp only [hR]
    · have hrun := run_endLoop (P := P) hl (by rw [hR]; simp)
      refine ⟨some c, W2.putObj (w.heap.size + 1) (.loop (R .exhausted (some c))), ?_, hstop Gi c pre _ hSp (hIx c _ _ _ _ hi (Stays.of_put _ (by omega) (fun h => (hne _ h).2 rfl))) (fun k hk => (hne k hk).1) ((World.putObj_heap_other (by omega)).trans hd)⟩
      rw [hrun]
      simp only [hR]
end
/-- Where no depth is asked the figures are all one. -/
theorem yield_in {l r : Nat} {m : Nat} {P : Program} {f : FuncId} {tmps : Array Value} {assign body : Code} {w : World} {R : Ending → World → Prop} (h : RoundIn Fence.wide 9 P l f tmps assign body w R) : RoundIn (Fence.wide.inRound r) m P l f tmps assign body w R :=
  ⟨h.1, fun c cs _ => h.2 c cs (fun d hd => by cases hd)⟩
theorem yield_in0 {l : Nat} {m : Nat} {P : Program} {f : FuncId} {tmps : Array Value} {assign body : Code} {w : World} {R : Ending → World → Prop} (h : RoundIn Fence.wide 9 P l f tmps assign body w R) : RoundIn Fence.wide m P l f tmps assign body w R :=
  ⟨h.1, fun c cs _ => h.2 c cs (fun d hd => by cases hd)⟩
end Go.Proofs.Ytchbfeejpdfmhaa
/-! line.All: its iterator's contract, the second way. -/
set_option linter.unusedSimpArgs false
set_option linter.unusedVariables false
namespace Go.Proofs.Ytchbfeejpdfmhaa
open Go.RowKit Go.Shelf Go.Proofs.YtchbfeejpdfmhaaW.PrintWords Go.Proofs.YtchbfeejpdfmhaaW.PrintLast Go.Proofs.YtchbfeejpdfmhaaW.PrintMore
attribute [local go_sem] Oper.semAt_some

def LineHand (x : LineX) (k : Nat) : Prop := some k = x.val.ownBlock
set_option maxRecDepth 100000 in
set_option maxHeartbeats 4000000 in
theorem all1_seq2 (Bn : Nat) (v : Value) (b : List UInt8) (hl : b.length ≤ 1099511627776) (w0 w : World) (hb0 : Below w0.heap.size w0 w) (Cap : Nat → Prop) (hC0 : ∀ k, k < w0.heap.size → Cap k) (hCw : ∀ k, Cap k → k < w.heap.size) (hCB : Cap Bn) (hcell : w.cell? ⟨Bn, 0, none⟩ = some v) (hv : Rd kb w0 v b) :
    Seq2 Try.prog 58 #[.pointer (some ⟨Bn, 0, none⟩)] LineX.encs (LineGood b w.heap.size) LineHand Cap (fun xs => xs.map LineX.line = Pl.lines b) (fun pre => ∃ rest, pre.map LineX.line ++ rest = Pl.lines b) w := by
  obtain ⟨A0, c0, rfl, hc0, hF⟩ := hv
  intro l J Jx W G0 hW hG0 hJ hJx hY h0
  have hB : Bn < w.heap.size := hCw _ hCB
  refine callsIn_of_wp Try.func58 rfl trivial ?_ rfl
  simp only [Try.ntmps58, List.size_toArray, List.length_cons, List.length_nil, Nat.reduceAdd, Nat.reduceSub, Array.replicate_succ, Array.replicate_zero, List.push_toArray, List.append_toArray, List.nil_append, List.cons_append]
  have HF := Lib.hid hF
  have hWs := hW.size
  have hcellW : W.cell? ⟨Bn, 0, none⟩ = some (.slice A0 b.length c0) := (hW.cell (p := ⟨Bn, 0, none⟩) hB).trans hcell
  clear hF
  gi_wp2
  gi_loopw [3, 4] (fun at_ i wr => ∃ (k : Nat) (pre : List LineX), at_ = .int .i64 (k : Int) ∧ i = .int .i64 (pre.length : Int) ∧ Aside0 (k ≤ b.length) ∧ Aside0 (pre.length ≤ k) ∧ Aside0 (pre.map LineX.line ++ Pl.linesFrom k (b.drop k) = Pl.lines b) ∧ Aside0 (∃ G, (∀ k, G k → k < wr.heap.size ∧ ¬ Cap k) ∧ J G pre wr) ∧ Aside0 (Below w0.heap.size w0 wr ∧ W.heap.size ≤ wr.heap.size ∧ wr.cell? ⟨Bn, 0, none⟩ = some (.slice A0 b.length c0))) (fun at_ _ _ => b.length - (intOf at_).toNat)
  case atStart => exact ⟨0, [], rfl, rfl, ⟨by omega⟩, ⟨by simp⟩, ⟨by simp [Pl.lines]⟩, ⟨⟨G0, hG0, h0⟩⟩, ⟨bthen hb0 hW, Nat.le_refl _, hcellW⟩⟩
  case round =>
    obtain ⟨k, pre, rfl, rfl, hk, hpk, hpre, HJ, HB⟩ := hrel
    have hcr : wr.cell? ⟨Bn, 0, none⟩ = some (.slice A0 b.length c0) := HB.out.2.2
    by_cases hlt : k < b.length
    · obtain ⟨A3, hfrom, hVf⟩ := byte_from (Kd.F_below HF.out HB.out.1) hc0 k hk.out
      have hfrom' := hfrom .i64 (k : Int) rfl
      have hne : b.drop k ≠ [] := fun h => by have := congrArg List.length h; simp at this; omega
      have HL := Lib.hid (Pl.linesFrom_cons k hne)
      obtain ⟨m, hm⟩ : ∃ m, b.drop k = m := ⟨_, rfl⟩
      have hml : m.length = b.length - k := by rw [← hm]; simp
      rw [hm] at HL hVf
      rw [← hml] at hVf hfrom'
      have HV := Lib.hid (Kd.V_mono hVf (fun _ _ => trivial) : Rd kb wr _ _)
      have HM := Lib.hid hm
      have hk0 : (0 : Int) ≤ (k : Int) := by omega
      have hk1 : (k : Int) ≤ (b.length : Int) := by omega
      have HML := Lib.hid hml
      have hm40 : m.length ≤ 1099511627776 := by omega
      clear hfrom hVf hm hne hml
      gi_wp2
      have hL1 := lit_own wr wr.heap.size [10] [.int .u8 10] rfl (Nat.le_refl _) (by simp)
      have hA1 := below_alloc (Below.refl wr.heap.size wr) (.cells #[.int .u8 10] 5)
      refine ⟨trivial, (callsIn_wide.2 (cut1_any _ _ m 10 _ (Rd.below HV.out hA1) hL1.rd hm40)).mono ?_⟩
      rintro e w3 ⟨va, vb, rfl, hra, hb3⟩
      have hb3 := bthen hA1 hb3
      clear hL1 hA1
      obtain ⟨t, ht⟩ : ∃ t, Pl.cutLen 10 m = t := ⟨_, rfl⟩
      have htl := Pl.cutLen_le 10 m
      rw [ht] at HL hra htl ⊢
      obtain ⟨x, hx⟩ : ∃ x, m.take t = x := ⟨_, rfl⟩
      have hxl : x.length = t := by rw [← hx]; simp; omega
      rw [hx] at HL hra
      obtain ⟨Aa, ca, hva⟩ := Kd.V_slice hra
      subst hva
      have HRA := Lib.hid hra
      have HB3 := Lib.hid hb3
      have HT := Lib.hid ht
      have HXL := Lib.hid hxl
      clear hra hb3 ht hx hxl
      gi_wp2
      have hL2 := lit_own w3 w3.heap.size [13] [.int .u8 13] rfl (Nat.le_refl _) (by simp)
      have hA2 := below_alloc (Below.refl w3.heap.size w3) (.cells #[.int .u8 13] 5)
      refine ⟨trivial, (callsIn_wide.2 (trim1_any _ _ x 13 _ (Rd.below HRA.out hA2) hL2.rd)).mono ?_⟩
      rintro e w4 ⟨vt, rfl, hrt, hw4⟩
      have hb4 := bthen HB3.out hA2
      rw [← hw4] at hb4
      have hty := Pl.trimB_le 13 x
      obtain ⟨y, hy⟩ : ∃ y, Pl.trimB 13 x = y := ⟨_, rfl⟩
      rw [hy] at HL hrt hty
      rw [← hw4] at hrt
      have hyl : y.length ≤ 1099511627776 := by have := HXL.out; omega
      obtain ⟨At, ct, hvt⟩ := Kd.V_slice hrt
      subst hvt
      have HRT := Lib.hid hrt
      have HB4 := Lib.hid hb4
      clear hL2 hA2 hw4 hb4 hrt hy hty
      gi_wp2
      refine ⟨trivial, (callsIn_wide.2 (clone_any _ y _ HRT.out (by omega))).mono ?_⟩
      rintro e w5 ⟨vc, rfl, ho5, hb5⟩
      obtain ⟨Ac, cc, hvc⟩ := Kd.N_slice ho5
      subst hvc
      have hb5' := bthen HB4.out hb5
      have HB5 := Lib.hid hb5'
      obtain ⟨G, hGb, hJr⟩ := HJ.out
      have hJ5 : J G pre w5 := hJ G pre wr w5 hJr (Stays.of_below hb5')
      have hs5 := hb5'.size
      have hG5 : ∀ k, G k → k < w5.heap.size ∧ ¬ Cap k := fun k hk => ⟨by have := (hGb k hk).1; omega, (hGb k hk).2⟩
      have hbase := Kd.N_base ho5
      have hs4 := HB4.out.size
      have hH : ∀ q : Nat, LineHand ⟨pre.length, (k : Int), y, Ac, cc⟩ q → (¬ G q ∧ q < w5.heap.size) ∧ W.heap.size ≤ q := fun j hj => by
        have h1 := hbase j hj.symm
        have h2 := HB.out.2.1
        exact ⟨⟨fun hg => by have := (hGb j hg).1; omega, Kd.N_lt ho5 j hj.symm⟩, by omega⟩
      have hgood : LineGood b w.heap.size pre ⟨pre.length, k, y, Ac, cc⟩ w5 := by
        refine ⟨rfl, ⟨Pl.linesFrom (k + t + 1) (m.drop (t + 1)), ?_⟩, ?_⟩
        · have := hpre.out
          rw [HM.out, HL.out] at this
          rw [← this]
          simp [LineX.line]
        · exact Kd.R_mono (Kd.R_lower (own_R ho5) (by have := HB4.out.size; have := HB.out; omega)) (fun _ _ => trivial)
      obtain ⟨fn, tmps, assign, body, hy, hR⟩ := hY G pre ⟨pre.length, k, y, Ac, cc⟩ w5 hJ5 hG5 hgood (fun j hj => (hH j hj).1)
      dsimp only [LineX.encs] at hy
      have HG := Lib.hid hgood
      have HH := Lib.hid hH
      have HG5 := Lib.hid hG5
      have HGB := Lib.hid hGb
      clear ho5 hb5 hb5' hJ5 hgood hH hG5 hGb hbase hJr hs5 hs4
      gi_wp2
      refine (yield_in0 hR).mono ?_
      rintro e w6 ⟨G', hmv, hgr, (⟨rfl, hJ6⟩ | ⟨rfl, hJx6⟩)⟩
      · have hbn : Bn < w5.heap.size := by have := HB5.out.size; have := HB.out.2.1; have := hWs; omega
        have hc6 : w6.cell? ⟨Bn, 0, none⟩ = some (.slice A0 b.length c0) := (World.cell?_of_block (hmv.block Bn hbn (fun h => (HG5.out _ h).2 hCB))).trans ((HB5.out.cell (p := ⟨Bn, 0, none⟩) (World.block_lt_of_cell? _ _ HB.out.2.2)).trans HB.out.2.2)
        have hs50 : w0.heap.size ≤ w5.heap.size := by have := HB5.out.size; have := HB.out.1.size; omega
        have hk6 : Below w0.heap.size w5 w6 := hmv.below hs50 (fun k hk => Nat.le_of_not_lt (fun h => (HG5.out k hk).2 (hC0 k h)))
        have hJ6' : ∃ G, (∀ k, G k → k < w6.heap.size ∧ ¬ Cap k) ∧ J G (pre ++ [(⟨pre.length, k, y, Ac, cc⟩ : LineX)]) w6 := ⟨G', fun j hj => by
          obtain ⟨h1, h2⟩ := hgr j hj
          refine ⟨h1, fun hc => ?_⟩
          rcases h2 with h2 | h2
          · exact (HG5.out j h2).2 hc
          · have := hCw j hc
            have := HB5.out.size
            have := HB.out.2.1
            omega, hJ6⟩
        have HJ6 := Lib.hid hJ6'
        have HB6 := Lib.hid (HB.out.1.trans ((HB5.out.mono HB.out.1.size).trans hk6))
        have hs6 : W.heap.size ≤ w6.heap.size := by have := HB5.out.size; have := hk6.size; have := HB.out.2.1; omega
        have hsum : k + t ≤ b.length := by have := HML.out; omega
        have hprek : pre.length ≤ k := hpk.out
        have HGL := Lib.hid HG.out.2.1
        have hpre2 : (pre ++ [(⟨pre.length, k, y, Ac, cc⟩ : LineX)]).map LineX.line ++ Pl.linesFrom (k + t + 1) (m.drop (t + 1)) = Pl.lines b := by
          have := hpre.out
          rw [HM.out, HL.out] at this
          rw [← this]
          simp [LineX.line]
        have HP2 := Lib.hid hpre2
        have hml := HML.out
        have hxl := HXL.out
        clear hJ6 hJ6' hk6 hpre2 hY hcr hfrom' hR hy hbn hs50 hmv hgr
        rcases Nat.lt_or_ge t m.length with h | h
        · have hd : decide (t < m.length) = true := by simpa using h
          rw [hd]
          have hw1 : IntKind.i64.wrap ((k : Int) + (t : Int)) = (k : Int) + (t : Int) := IntWalk.i64_in _ (by omega)
          have hw2 : IntKind.i64.wrap ((k : Int) + (t : Int) + 1) = (k : Int) + (t : Int) + 1 := IntWalk.i64_in _ (by omega)
          have hw3 : IntKind.i64.wrap ((pre.length : Int) + 1) = (pre.length : Int) + 1 := IntWalk.i64_in _ (by omega)
          have hsum2 : k + t + 1 ≤ b.length := by omega
          clear hd hml
          gi_wp2
          go_roundw
          case rel => exact ⟨k + t + 1, _, by go_num, by simp, ⟨by omega⟩, ⟨by simp; omega⟩, ⟨by have := HP2.out; rw [← HM.out, List.drop_drop] at this; exact this⟩, ⟨HJ6.out⟩, ⟨HB6.out, hs6, hc6⟩⟩
          case measure => simp only [intOf]; omega
        · have hte : t = m.length := by omega
          have hd : decide (t < m.length) = false := by simp; omega
          rw [hd]
          have hw1 : IntKind.i64.wrap ((k : Int) + (t : Int)) = (k : Int) + (t : Int) := IntWalk.i64_in _ (by omega)
          have hw3 : IntKind.i64.wrap ((pre.length : Int) + 1) = (pre.length : Int) + 1 := IntWalk.i64_in _ (by omega)
          have hnil : Pl.linesFrom (k + t + 1) (m.drop (t + 1)) = Pl.linesFrom (k + t) (b.drop (k + t)) := by
            rw [List.drop_of_length_le (by omega), List.drop_of_length_le (by omega), Pl.linesFrom_nil, Pl.linesFrom_nil]
          have HN := Lib.hid hnil
          have htk : k + t ≤ b.length := hsum
          have ht0 : 0 < t := by omega
          clear hd hml hnil hte
          gi_wp2
          go_roundw
          case rel => exact ⟨k + t, _, by go_num, by simp, ⟨htk⟩, ⟨by simp; omega⟩, ⟨by have := HP2.out; rw [HN.out] at this; exact this⟩, ⟨HJ6.out⟩, ⟨HB6.out, hs6, hc6⟩⟩
          case measure => simp only [intOf]; omega
      · gi_wp2
        refine bodyPost_ret (results_none rfl _ _ _) rfl ?_
        exact ⟨⟨_, rfl⟩, .inr ⟨_, _, HG.out.2.1, hJx6⟩⟩
    · obtain rfl : k = b.length := by have := hk.out; omega
      have hd : decide ((b.length : Int) < (b.length : Int)) = false := by simp
      have hpre2 := hpre.out
      rw [List.drop_of_length_le (Nat.le_refl _), Pl.linesFrom_nil, List.append_nil] at hpre2
      have HP := Lib.hid hpre2
      clear hpre2
      gi_wp2
      go_end0
      obtain ⟨G, _, hJ⟩ := HJ.out
      exact ⟨⟨_, rfl⟩, .inl ⟨pre, G, HP.out, hJ⟩⟩
end Go.Proofs.Ytchbfeejpdfmhaa
