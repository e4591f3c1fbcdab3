import Derived.Test.YtjogbgiknnfinaaLines
import Derived.Maps.OwnIn
import Derived.Maps.AppendAt
/-! creellaw07.list. -/
set_option linter.unusedSimpArgs false
set_option linter.unusedVariables false
namespace Go.Proofs.Ytjogbgiknnfinaa
open Go.RowKit Go.Shelf Go.Proofs.YtjogbgiknnfinaaW.PrintWords Go.Proofs.YtjogbgiknnfinaaW.PrintLast Go.Proofs.YtjogbgiknnfinaaW.PrintMore
attribute [local go_sem] Oper.semAt_some

/-- append(v, x) of a row of one's own, in a fence. -/
theorem appendIn {α : Type} (d : Kd α) {F : Fence} {nF : Nat} {P : Program} {W : World} {ops : Array Oper} {rest : List Oper} {o : Oper} {a : Act} {Q : Exit → Act → World → Prop} (base : Nat) (hgd : o.guard = none) (s x : Operand) (t e : TypeId) (z : Value) (bytes : Nat)
    (ho : o.op = .call { callee := .builtin .append, args := #[s, x], argTypes := #[t, t] })
    (ht : P.underlying t = some (.slice e)) (hinfo : (P.info? e).map (fun i => (i.zero, i.size, i.bytes)) = some (some z, d.sz, bytes)) (hz : z.cells.size = d.sz) (hs0 : 0 < d.sz) (hb0 : 0 < bytes)
    (v : Value) (xs : List α) (p : α) (cs : List Value) (ok okp : Nat → Prop) (hs : a.eval s = v) (hx : a.eval x = .slice (some ⟨W.heap.size, 0, none⟩) 1 1) (hp : d.M W base okp p cs) (hokp : ∀ k, okp k → ok k ∧ some k ≠ v.ownBlock) (hfresh : ∀ k, W.heap.size ≤ k → ok k)
    (HO : d.R e W base ok v xs) (hbase : base ≤ W.heap.size) (hl : (xs.length + 1) * bytes ≤ 140737488355328)
    (h : ∀ v1 w1, d.R e w1 base ok v1 (xs ++ [p]) → W.grownBy w1 v.ownBlock → (v1.ownBlock = v.ownBlock ∨ ∃ b, v1.ownBlock = some b ∧ W.heap.size ≤ b) → wpListIn F nF P ops Q rest (a.put o.dst v1) w1) :
    wpListIn F nF P ops Q (o :: rest) a (W.alloc (.cells cs.toArray e)) := by
  obtain ⟨h0, inner, hown, hr⟩ := HO
  obtain ⟨i0, hi, hzz⟩ := Option.map_eq_some_iff.1 hinfo
  simp only [Prod.mk.injEq] at hzz
  obtain ⟨hz0, hz1, hz2⟩ := hzz
  have hlen : cs.length = d.sz := d.K_len (d.K_of_M hp)
  have hA := below_alloc (Below.refl W.heap.size W) (.cells cs.toArray e)
  refine wpListIn_append_own_at _ hgd s x t ho base e i0 z d.sz bytes ht hi hz0 hz1 hz2 hz hs0 v xs.length inner hs (own_move hown (fun k hk => hA.block k (own_lt hown k hk))) ⟨W.heap.size, 0, none⟩ 1 1 cs hx (by omega) ?_ (d.K_one (d.K_of_M hp)) ?_ hl (by simp; omega) ?_
  · intro j u hu
    rw [add_plain, cell_of_row (W.alloc (.cells cs.toArray e)) W.heap.size j cs.toArray e (0, 0) (heap_alloc_new W _)]
    simpa using hu
  · have h1 : (xs.length + 1) * 1 ≤ (xs.length + 1) * bytes := Nat.mul_le_mul_left _ hb0
    unfold maxLen
    omega
  · intro v1 w1 hown1 hg1 _ hat1
    have hg : W.grownBy w1 v.ownBlock := ⟨hg1.os, hg1.tape, hg1.output, by have := hg1.size; simp at this; omega, fun k hk hne => (hg1.block k (by simp; omega) hne).trans (hA.block k hk)⟩
    have hat : v1.ownBlock = v.ownBlock ∨ ∃ b, v1.ownBlock = some b ∧ W.heap.size ≤ b := by
      rcases hat1 with h1 | h1
      · exact .inl h1
      · exact .inr ⟨_, h1, by simp⟩
    exact h v1 w1 (Kd.R_appended h0 hr hp hokp hfresh hown1 hg hat) hg hat

/-- A block that is no cells may turn. -/
theorem R_turn {α : Type} {d : Kd α} {e base : Nat} {W W1 : World} {ok : Nat → Prop} {v : Value} {xs : List α} {row : Option Nat} (h : d.R e W base ok v xs) (hg : W.grownBy W1 row) (hr : ∀ r, row = some r → ∃ o : Obj, W.heap[r]? = some o ∧ o.isCells = false) : d.R e W1 base ok v xs :=
  Kd.R_mono (Kd.R_move (Kd.R_bound h) (fun k hk => by
    obtain ⟨_, _, hlt, q, _, cells, hc⟩ := hk
    refine hg.block k hlt (fun he => ?_)
    obtain ⟨o, ho, hf⟩ := hr k he.symm
    rw [hc] at ho
    cases ho
    cases hf)) (fun _ hk => hk.1)
theorem Turned.grown {W W1 : World} {l : Nat} (h : Turned W W1 l) : W.grownBy W1 (some l) := by
  obtain ⟨o, rfl⟩ := h.eq
  exact grownBy_putObj' W l o
theorem Turned.R {α : Type} {d : Kd α} {e base : Nat} {W W1 : World} {l : Nat} {ok : Nat → Prop} {v : Value} {xs : List α} (hT : Turned W W1 l) (h : d.R e W base ok v xs) : d.R e W1 base ok v xs :=
  R_turn h hT.grown (fun r he => by cases he; exact hT.was)
theorem Turned.blk {W W1 : World} {l g : Nat} {cs : Array Value} {t : TypeId} (hT : Turned W W1 l) (h : Blk W g cs t) : Blk W1 g cs t :=
  h.grown hT.grown (fun he => by
    cases he
    obtain ⟨o, ho, hf⟩ := hT.was
    rw [h.out] at ho
    cases ho
    cases hf)
/-- Between two rounds of list. -/
structure ListI (w : World) (bv : Value) (pre : List LineX) (W : World) : Prop where
  b : Blk W w.heap.size #[bv] 22
  r : Blk W (w.heap.size + 1) #[.slice none 0 0] 40
  k : Blk W (w.heap.size + 1 + 1) #[.bool false] 4
  o : ∃ v, Blk W (w.heap.size + 1 + 1 + 1) #[v] 40 ∧ kLine.R 26 W (w.heap.size + 5) (fun j => w.heap.size + 5 ≤ j) v (pre.map LineX.line)
  bel : Below w.heap.size w W
theorem listI_own (w : World) (bv : Value) (B : Nat) (hB : w.heap.size + 5 ≤ B) : OwnFrom B (ListI w bv) := by
  rintro pre W W1 row ⟨h1, h2, h3, ⟨v, h4, h5⟩, h6⟩ hg hr
  have ne : ∀ k, k < w.heap.size + 5 → some k ≠ row := fun k hk he => by have := (hr k he.symm).1; omega
  exact ⟨h1.grown hg (ne _ (by omega)), h2.grown hg (ne _ (by omega)), h3.grown hg (ne _ (by omega)), ⟨v, h4.grown hg (ne _ (by omega)), R_turn h5 hg (fun r he => (hr r he).2)⟩, h6.grown hg h6.size (fun k he => by have := (hr k he).1; omega)⟩

theorem all_any (v : Value) (b : List UInt8) (w : World) (hv : Rd kb w v b) :
    Calls Try.prog 24 #[v] w fun e w' => e = .returned (.func (.func 35) #[] #[.pointer (some ⟨w.heap.size, 0, none⟩)]) ∧ w' = w.alloc (.cells #[v] 22) := by
  obtain ⟨A, c, rfl⟩ := Kd.V_slice hv
  clear hv
  go_enter Try.func24, Try.ntmps24
  go_wp2_with fail
  go_ret
  exact ⟨rfl, rfl⟩

set_option maxRecDepth 100000 in
set_option maxHeartbeats 4000000 in
theorem list_any (v : Value) (b : List UInt8) (w : World) (hv : Rd kb w v b) (hl : b.length ≤ 1048576) :
    Calls Try.prog 22 #[v] w fun e w' => ∃ v', e = .returned (.tuple #[v', .bool true]) ∧ Own kLine 26 w' w.heap.size v' (Pl.lines b) ∧ Below w.heap.size w w' := by
  have HR := Lib.hid hv
  obtain ⟨A, c, rfl⟩ := Kd.V_slice hv
  clear hv
  refine (callsIn_wide (n := 5)).1 ?_
  refine callsIn_of_wp_marks Try.func22 rfl trivial ?_ rfl
  simp only [Try.ntmps22, List.size_toArray, List.length_cons, List.length_nil, Nat.reduceAdd, Nat.reduceSub, Array.replicate_succ, Array.replicate_zero, List.push_toArray, List.append_toArray, List.nil_append, List.cons_append]
  gi_wp2
  refine ⟨trivial, (callsIn_wide.2 (all_any _ b _ (Rd.below HR.out (below_alloc (below_alloc (below_alloc (below_alloc (Below.refl _ _) _) _) _) _)))).mono ?_⟩
  rintro e w1 ⟨rfl, hw1⟩
  have hb1 : Below w.heap.size w w1 := by rw [hw1]; exact below_alloc (below_alloc (below_alloc (below_alloc (below_alloc (Below.refl _ _) _) _) _) _) _
  have hsz : w1.heap.size = w.heap.size + 5 := by rw [hw1]; simp
  have K0 := ((((Blk.new w #[.slice A b.length c] 22).alloc (.cells #[.slice none 0 0] 40)).alloc (.cells #[.bool false] 4)).alloc (.cells #[.slice none 0 0] 40)).alloc (.cells #[.slice A b.length c] 22)
  have K1 := ((Blk.new (w.alloc (.cells #[.slice A b.length c] 22)) #[.slice none 0 0] 40).alloc (.cells #[.bool false] 4)).alloc (.cells #[.slice none 0 0] 40) |>.alloc (.cells #[.slice A b.length c] 22)
  have K2 := ((Blk.new ((w.alloc (.cells #[.slice A b.length c] 22)).alloc (.cells #[.slice none 0 0] 40)) #[.bool false] 4).alloc (.cells #[.slice none 0 0] 40)).alloc (.cells #[.slice A b.length c] 22)
  have K3 := (Blk.new (((w.alloc (.cells #[.slice A b.length c] 22)).alloc (.cells #[.slice none 0 0] 40)).alloc (.cells #[.bool false] 4)) #[.slice none 0 0] 40).alloc (.cells #[.slice A b.length c] 22)
  have K4 := Blk.new ((((w.alloc (.cells #[.slice A b.length c] 22)).alloc (.cells #[.slice none 0 0] 40)).alloc (.cells #[.bool false] 4)).alloc (.cells #[.slice none 0 0] 40)) #[.slice A b.length c] 22
  simp only [World.size_alloc] at hw1 K1 K2 K3 K4
  rw [← hw1] at K0 K1 K2 K3 K4
  clear hw1
  have hnil : ∀ (cap : Array Value) (W : World), (binOp .eql 45 (.func (.func 35) #[] cap) Value.nilFunc).run Try.prog W = .ok (.bool false) W := fun cap W => by kernel_rfl
  gi_wp2
  have h4 : w1.cell? ⟨w.heap.size + 4, 0, none⟩ = some (.slice A b.length c) := K4.cell.1 0
  refine range_seq rfl (by omega) (gf := 35) (lb := #[.pointer (some ⟨w.heap.size + 4, 0, none⟩)]) rfl trivial (enters_of Try.func35 (by kernel_rfl) rfl)
    (all1_seq 4 (by omega) (w.heap.size + 4) (.slice A b.length c) b (by omega) w w1 hb1 (by omega) h4 HR.out) (fun h k => ⟨h.1.trans k.1, fun u hu => k.2 u (h.2 u hu)⟩) (fun W l o o' hl h hc hw => ⟨belowK_b hb1.size W l o o' hl h hc hw, fun u hu => cell_kept hu (grownBy_putObj' W l o') (fun r e => by cases e; exact ⟨o, h, hc⟩)⟩) (fun _ => rfl)
    (ListI w (.slice A b.length c)) (fun _ _ _ => False) (listI_own w _ _ (by omega)) (fun _ _ _ _ _ h _ _ => h)
    ⟨K0, K1, K2, ⟨_, K3, by simpa using Kd.R_nil kLine 26 w1 (w.heap.size + 5) _⟩, hb1⟩ ?round ?done ?stop
  case stop => exact fun D c pre W _ _ h _ => h.elim
  case done =>
    intro D xs W hD hS hI hK
    obtain ⟨v1, ho, hr⟩ := hI.o
    obtain ⟨A1, c1, hv1⟩ := Kd.R_slice hr
    subst hv1
    obtain ⟨ho1, ho2⟩ := ho.cell
    obtain ⟨hr1, hr2⟩ := hI.r.cell
    obtain ⟨hk1, hk2⟩ := hI.k.cell
    rw [hS] at ho hr ho1
    gi_wp2
    have hK' := ((KeepsOthers.setCell W ⟨w.heap.size + 1, 0, none⟩ (.slice A1 (Pl.lines b).length c1)).trans (KeepsOthers.setCell _ ⟨w.heap.size + 1 + 1, 0, none⟩ (.bool true))).same D _ hK rfl
    refine ⟨by simp, .inl ⟨_, _, rfl, run_takeDeferred hK', ?_⟩⟩
    have kr := ((hI.r.set (cs' := #[.slice A1 (Pl.lines b).length c1]) 0 (.slice A1 (Pl.lines b).length c1) rfl).far (p := ⟨w.heap.size + 1 + 1, 0, none⟩) (by show w.heap.size + 1 ≠ w.heap.size + 1 + 1; omega) (.bool true)).grown (grownBy_putObj' _ D (.deferred none)) (fun he => by cases he; omega)
    have kk := ((hI.k.far (p := ⟨w.heap.size + 1, 0, none⟩) (by show w.heap.size + 1 + 1 ≠ w.heap.size + 1; omega) (.slice A1 (Pl.lines b).length c1)).set (cs' := #[.bool true]) 0 (.bool true) rfl).grown (grownBy_putObj' _ D (.deferred none)) (fun he => by cases he; omega)
    have er := kr.cell.1 0
    have ek := kk.cell.1 0
    have hbW := ((hI.bel.setCell (p := ⟨w.heap.size + 1, 0, none⟩) (by show w.heap.size ≤ w.heap.size + 1; omega) (.slice A1 (Pl.lines b).length c1)).setCell (p := ⟨w.heap.size + 1 + 1, 0, none⟩) (by show w.heap.size ≤ w.heap.size + 1 + 1; omega) (.bool true)).grown (grownBy_putObj' _ D (.deferred none)) (by simpa using hI.bel.size) (fun k he => by cases he; omega)
    have hR2 := R_turn (Kd.R_far (p := ⟨w.heap.size + 1 + 1, 0, none⟩) (Kd.R_far (p := ⟨w.heap.size + 1, 0, none⟩) hr (fun k hk => by show k ≠ w.heap.size + 1; omega) (.slice A1 (Pl.lines b).length c1)) (fun k hk => by show k ≠ w.heap.size + 1 + 1; omega) (.bool true)) (grownBy_putObj' _ D (.deferred none)) (fun r e => by cases e; exact ⟨_, hK', rfl⟩)
    refine ⟨.tuple #[.slice A1 (Pl.lines b).length c1, .bool true], ?_, _, rfl, ?_, hbW⟩
    · simp [results, Try.results22, go_sem, er, ek]
    · exact Own.lower (Kd.R_N hR2) (by omega)
  case round =>
    intro l pre x W hl1 hl2 hI hG
    obtain ⟨v1, ho, hr⟩ := hI.o
    dsimp only [LineX.encs]
    gi_wp2
    refine ⟨KeepsOthers.alloc _ _, fun W2 hT => ?_⟩
    have hal := below_alloc (Below.refl W.heap.size W) (.cells #[.int .i64 x.at_, .slice x.A x.bs.length x.c] 26)
    obtain ⟨A1, c1, hv1⟩ := Kd.R_slice hr
    subst hv1
    have kb0 := hT.blk (hI.b.alloc (.cells #[.int .i64 x.at_, .slice x.A x.bs.length x.c] 26))
    have kr0 := hT.blk (hI.r.alloc (.cells #[.int .i64 x.at_, .slice x.A x.bs.length x.c] 26))
    have kk0 := hT.blk (hI.k.alloc (.cells #[.int .i64 x.at_, .slice x.A x.bs.length x.c] 26))
    have ko0 := hT.blk (ho.alloc (.cells #[.int .i64 x.at_, .slice x.A x.bs.length x.c] 26))
    have kx0 := hT.blk (Blk.new W #[.int .i64 x.at_, .slice x.A x.bs.length x.c] 26)
    have hr2 := hT.R (Kd.R_below hr hal)
    obtain ⟨hG1, ⟨rest, hG2⟩, hG3⟩ := hG
    have hx2 := hT.R (Kd.R_below hG3 hal)
    have hlen : pre.length ≤ b.length := by
      have h1 := congrArg List.length hG2
      have h2 := Pl.lines_len b
      simp at h1
      omega
    have hlm : (pre.map LineX.line).length = pre.length := by simp
    obtain ⟨c0, c0f⟩ := kb0.cell
    obtain ⟨c3, c3f⟩ := ko0.cell
    obtain ⟨cx, cxf⟩ := kx0.cell
    have hneq : ((x.i : Int) != (pre.length : Int)) = false := by rw [hG1]; simp
    have hgt : decide ((b.length : Int) < (x.i : Int)) = false := by simp; omega
    simp only [hlm] at c3
    simp only [hlm] at hr2
    have hM : kLine.M W2 (w.heap.size + 5) (fun j => some j = (Value.slice x.A x.bs.length x.c).ownBlock) x.line [.int .i64 x.at_, .slice x.A x.bs.length x.c] :=
      ⟨[.int .i64 x.at_], [.slice x.A x.bs.length x.c], rfl, rfl, ⟨_, rfl, Kd.R_tight rfl (Kd.R_lower hx2 (by omega))⟩⟩
    have hsW : w.heap.size + 5 ≤ W.heap.size := by omega
    have hs2 : W.heap.size ≤ W2.heap.size := by have := hT.grown.size; simp at this; omega
    have hQ : ∀ j, some j = (Value.slice x.A x.bs.length x.c).ownBlock → w.heap.size + 5 ≤ j ∧ some j ≠ (Value.slice A1 pre.length c1).ownBlock := fun j hj => by
      have h1 := Kd.N_base (Kd.R_N hx2) j hj.symm
      obtain ⟨cells, hc⟩ := Kd.N_typed (Kd.R_N hx2) j hj.symm
      exact ⟨by omega, Kd.R_ne hr2 hc (by decide)⟩
    have hne3 : some (w.heap.size + 1 + 1 + 1) ≠ (Value.slice A1 pre.length c1).ownBlock := fun he => by
      have := Kd.N_base (Kd.R_N hr2) _ he.symm
      omega
    gi_wp2_with (gi_at_builtin; refine appendIn kLine (W := W2) (w.heap.size + 5) rfl (.tmp 26) (.tmp 28) 40 26 (.agg #[.int .i64 0, .slice none 0 0]) 32 rfl Try.underlying40 infoLine rfl (by decide) (by omega) _ (pre.map LineX.line) x.line [.int .i64 x.at_, .slice x.A x.bs.length x.c] (fun j => w.heap.size + 5 ≤ j) (fun j => some j = (Value.slice x.A x.bs.length x.c).ownBlock) rfl rfl hM ?aQ ?aF hr2 ?aS ?aL ?_; (case aQ => exact hQ); (case aF => exact fun j hj => by omega); (case aS => omega); (case aL => simp; omega); intro v9 w9 hr9 hg9 hat9; obtain ⟨A9, c9, hv9⟩ := Kd.R_slice hr9; subst hv9; have ko9 := (ko0.grown hg9 hne3); obtain ⟨c9', c9f⟩ := ko9.cell)
    have hl5 : w.heap.size + 5 ≤ l := by omega
    have hown9 : ∀ j (o : Obj), (Value.slice A1 pre.length c1).ownBlock = some j → W2.heap[j]? = some o → o.isCells = true := fun j o he ho => by
      obtain ⟨cells, hc⟩ := Kd.N_typed (Kd.R_N hr2) j he
      rw [hc] at ho
      cases ho
      rfl
    have hB2' : Below (w.heap.size + 5) W W2 := (hal.mono (by omega)).grown hT.grown (by simp; omega) (fun k he => by cases he; omega)
    have hB9' : Below (w.heap.size + 5) W w9 := hB2'.grown hg9 (by omega) (fun k he => by have := Kd.N_base (Kd.R_N hr2) k he; omega)
    have hB9 : Below w.heap.size W w9 := hB9'.mono (by omega)
    have hlow : ∀ k, k < w.heap.size + 5 → some k ≠ (Value.slice A1 pre.length c1).ownBlock := fun k hk he => by
      have := Kd.N_base (Kd.R_N hr2) _ he.symm
      omega
    refine ⟨(KeepsOthers.of_grownBy hg9 hown9).trans (KeepsOthers.setCell _ _ _), ⟨hB9.setCell (p := ⟨w.heap.size + 1 + 1 + 1, 0, none⟩) (by simp; omega) _, fun u hu => ?_⟩, ?_⟩
    · exact (World.cell?_of_block (Below.heap_setCell w9 ⟨w.heap.size + 1 + 1 + 1, 0, none⟩ _ (w.heap.size + 4) (by show w.heap.size + 4 ≠ w.heap.size + 1 + 1 + 1; omega))).trans ((hB9'.cell (p := ⟨w.heap.size + 4, 0, none⟩) (by show w.heap.size + 4 < w.heap.size + 5; omega)).trans hu)
    · refine ⟨(kb0.grown hg9 ?_).far (by show w.heap.size ≠ w.heap.size + 1 + 1 + 1; omega) _, (kr0.grown hg9 ?_).far (by show w.heap.size + 1 ≠ w.heap.size + 1 + 1 + 1; omega) _, (kk0.grown hg9 ?_).far (by show w.heap.size + 1 + 1 ≠ w.heap.size + 1 + 1 + 1; omega) _, ⟨_, ko9.set 0 _ rfl, ?aR⟩, (hI.bel.trans (hB9.setCell (p := ⟨w.heap.size + 1 + 1 + 1, 0, none⟩) (by simp; omega) _))⟩
      case aR =>
        have hr10 := hr9
        rw [List.length_append, hlm] at hr10
        rw [List.map_append]
        exact Kd.R_far (p := ⟨w.heap.size + 1 + 1 + 1, 0, none⟩) hr10 (fun k hk => by show k ≠ w.heap.size + 1 + 1 + 1; omega) _
      all_goals exact hlow _ (by omega)
end Go.Proofs.Ytjogbgiknnfinaa
