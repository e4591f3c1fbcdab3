import Derived.Test.YtchbfeejpdfmhaaIter2
import Derived.Test.YtchbfeejpdfmhaaAdj
import Derived.Test.YtchbfeejpdfmhaaParse
import Derived.Test.YtchbfeejpdfmhaaBare
import Derived.Test.YtchbfeejpdfmhaaRight
/-! What a text tells, plainly; items handed over. -/
set_option linter.unusedSimpArgs false
set_option linter.unusedVariables false
namespace Go.Proofs.Ytchbfeejpdfmhaa
open Go.RowKit Go.Shelf Go.Proofs.YtchbfeejpdfmhaaW.PrintWords Go.Proofs.YtchbfeejpdfmhaaW.PrintLast Go.Proofs.YtchbfeejpdfmhaaW.PrintMore
namespace Pl
/-- what a line tells -/
def rawOf (c : Cfg) (l : Int × List UInt8) : List ItT := if bare l.2 then [] else if c.fmt = 1 then [It.t (edge l.1 l.2 c.num)] else adj l.1 l.2 c.num
def rawLines (b : List UInt8) (c : Cfg) : List ItT := (lines b).flatMap (rawOf c)
theorem lineInN (n : Nat) : ∀ (off : Nat) (l : List UInt8), l.length ≤ n → ∀ x ∈ linesFrom off l, 0 ≤ x.1 ∧ x.1 + (x.2.length : Int) ≤ (off : Int) + (l.length : Int) := by
  induction n with
  | zero =>
    intro off l h x hx
    have : l = [] := List.eq_nil_of_length_eq_zero (by omega)
    subst this
    rw [linesFrom_nil] at hx
    simp at hx
  | succ n ih =>
    intro off l h x hx
    by_cases hl : l = []
    · subst hl; rw [linesFrom_nil] at hx; simp at hx
    · have hp := List.length_pos_iff.2 hl
      rw [linesFrom_cons off hl] at hx
      rcases List.mem_cons.1 hx with rfl | hx
      · have h1 := trimB_le 13 (l.take (cutLen 10 l))
        have h2 := cutLen_le 10 l
        simp only [List.length_take] at h1
        exact ⟨by simp, by simp; omega⟩
      · have h2 := cutLen_le 10 l
        by_cases hc : cutLen 10 l = l.length
        · rw [List.drop_of_length_le (by omega), linesFrom_nil] at hx
          simp at hx
        · have := ih _ (l.drop (cutLen 10 l + 1)) (by simp; omega) x hx
          simp only [List.length_drop] at this
          omega
theorem lineIn (l : List UInt8) : ∀ x ∈ lines l, 0 ≤ x.1 ∧ x.1 + (x.2.length : Int) ≤ (l.length : Int) := fun x hx => by
  have := lineInN _ 0 l (Nat.le_refl _) x hx
  simpa using this
end Pl
/-- the cells of a Config in a block -/
abbrev cfgC (c : Pl.Cfg) : Array Value := #[.int .u8 (c.fmt.toNat : Int), .bool c.num, .bool c.skip, .bool c.both, .bool c.loops, .bool c.back, .int .i64 c.bud, .int .i64 c.fan, .int .i64 c.sha]
/-- An item that is handed over. -/
structure ItemX where
  it : Pl.ItT
  A1 : Option Addr
  c1 : Nat
  A2 : Option Addr
  c2 : Nat
def ItemX.v1 (x : ItemX) : Value := .slice x.A1 x.it.2.1.length x.c1
def ItemX.v2 (x : ItemX) : Value := .slice x.A2 x.it.2.2.1.length x.c2
def ItemX.encs (x : ItemX) : Array Value := #[.agg #[.bool x.it.1, .slice x.A1 x.it.2.1.length x.c1, .slice x.A2 x.it.2.2.1.length x.c2, .int .i64 x.it.2.2.2.1, .int .i64 x.it.2.2.2.2]]
def ItemGood (L : List Pl.ItT) (n0 : Nat) (pre : List ItemX) (x : ItemX) (W : World) : Prop :=
  (∃ rest, (pre ++ [x]).map ItemX.it ++ rest = L) ∧ OwnB W n0 (fun k => n0 ≤ k) x.v1 x.it.2.1 ∧ OwnB W n0 (fun k => n0 ≤ k) x.v2 x.it.2.2.1
def ItemHand (x : ItemX) (k : Nat) : Prop := some k = x.v1.ownBlock ∨ some k = x.v2.ownBlock
theorem ItemGood.hand {L : List Pl.ItT} {n0 : Nat} {pre : List ItemX} {x : ItemX} {W : World} (h : ItemGood L n0 pre x W) (k : Nat) (hk : ItemHand x k) : n0 ≤ k ∧ k < W.heap.size := by
  rcases hk with hk | hk
  · exact ⟨h.2.1.1 k hk.symm, Kd.N_lt (Kd.R_N h.2.1) k hk.symm⟩
  · exact ⟨h.2.2.1 k hk.symm, Kd.N_lt (Kd.R_N h.2.2) k hk.symm⟩
/-- line.All: the iterator. -/
theorem all_any (v : Value) (b : List UInt8) (w : World) (hv : Rd kb w v b) :
    Calls Try.prog 52 #[v] w fun e w' => e = .returned (.func (.func 58) #[] #[.pointer (some ⟨w.heap.size, 0, none⟩)]) ∧ w' = w.alloc (.cells #[v] 22) := by
  obtain ⟨A, c, rfl⟩ := Kd.V_slice hv
  clear hv
  go_enter Try.func52, Try.ntmps52
  go_wp2_with fail
  go_ret
  exact ⟨rfl, rfl⟩
/-- An item of a row of one's own. -/
theorem itemR_get {w : World} {v : Value} {base : Nat} {xs : List Pl.ItT} (h : OwnI w base v xs) (hp : 0 < xs.length) : ∃ g cap, v = .slice (some ⟨g, 0, none⟩) xs.length cap ∧ base ≤ g ∧ g < w.heap.size ∧
    ∀ (i : Nat) (x : Pl.ItT), xs[i]? = some x → ∃ A1 c1 A2 c2, OwnB w base (fun k => base ≤ k) (.slice A1 x.2.1.length c1) x.2.1 ∧ OwnB w base (fun k => base ≤ k) (.slice A2 x.2.2.1.length c2) x.2.2.1 ∧
      w.cell? ⟨g, i * 5, none⟩ = some (.bool x.1) ∧ w.cell? ⟨g, i * 5 + 1, none⟩ = some (.slice A1 x.2.1.length c1) ∧ w.cell? ⟨g, i * 5 + 2, none⟩ = some (.slice A2 x.2.2.1.length c2) ∧ w.cell? ⟨g, i * 5 + 3, none⟩ = some (.int .i64 x.2.2.2.1) ∧ w.cell? ⟨g, i * 5 + 4, none⟩ = some (.int .i64 x.2.2.2.2) := by
  obtain ⟨h0, inner, hown, hl, hr⟩ := h
  rcases hown.2 with ⟨_, h1⟩ | ⟨g, cap, cur, rfl, hg, hh, hn, hm, hsz, htk⟩
  · omega
  · refine ⟨g, cap, rfl, hg, (Array.getElem?_eq_some_iff.1 hh).1, fun i x hx => ?_⟩
    have hi : i < xs.length := (List.getElem?_eq_some_iff.1 hx).1
    have hM := hr i x hx
    obtain ⟨e0, e1, he, rfl, e2, e3, rfl, ⟨va, rfl, ha⟩, e4, e5, rfl, ⟨vb, rfl, hb⟩, e6, e7, rfl, rfl, rfl⟩ := hM
    obtain ⟨A1, c1, rfl⟩ := Kd.R_slice ha
    obtain ⟨A2, c2, rfl⟩ := Kd.R_slice hb
    refine ⟨A1, c1, A2, c2, Kd.R_mono ha (fun _ hk => hk.1), Kd.R_mono hb (fun _ hk => hk.1), ?_⟩
    have hc : ∀ (j : Nat) (u : Value), ([Value.bool x.1] ++ ([Value.slice A1 x.2.1.length c1] ++ ([Value.slice A2 x.2.2.1.length c2] ++ ([Value.int .i64 x.2.2.2.1] ++ [Value.int .i64 x.2.2.2.2]))))[j]? = some u → w.cell? ⟨g, i * 5 + j, none⟩ = some u := fun j u hj => by
      have hs5 : kItem.sz = 5 := rfl
      rw [hs5] at he htk hsz
      have hj5 : j < 5 := by
        have := (List.getElem?_eq_some_iff.1 hj).1
        simpa using this
      rw [← he, List.getElem?_take, if_pos hj5, List.getElem?_drop, ← htk, List.getElem?_take] at hj
      rw [cell_of_row w g _ cur 36 (0, 0) hh, ← Array.getElem?_toList]
      split at hj
      · exact hj
      · cases hj
    exact ⟨hc 0 _ rfl, hc 1 _ rfl, hc 2 _ rfl, hc 3 _ rfl, hc 4 _ rfl⟩
end Go.Proofs.Ytchbfeejpdfmhaa
