import Derived.Test.YtchbfeejpdfmhaaFeedCfg
/-! Two texts of lines, one behind the other: what they tell, plainly. -/
set_option linter.unusedSimpArgs false
set_option linter.unusedVariables false
namespace Go.Proofs.Ytchbfeejpdfmhaa
open Go.RowKit Go.Shelf Go.Proofs.YtchbfeejpdfmhaaW.PrintWords Go.Proofs.YtchbfeejpdfmhaaW.PrintLast Go.Proofs.YtchbfeejpdfmhaaW.PrintMore
namespace Pl
def shiftL (k : Nat) (x : Int × List UInt8) : Int × List UInt8 := (x.1 + (k : Int), x.2)
theorem linesFrom_shift (n : Nat) : ∀ (off k : Nat) (l : List UInt8), l.length ≤ n → linesFrom (off + k) l = (linesFrom off l).map (shiftL k) := by
  induction n with
  | zero =>
    intro off k l h
    have : l = [] := List.eq_nil_of_length_eq_zero (by omega)
    subst this
    rw [linesFrom_nil, linesFrom_nil]; rfl
  | succ n ih =>
    intro off k l h
    by_cases hl : l = []
    · subst hl; rw [linesFrom_nil, linesFrom_nil]; rfl
    · have hp := List.length_pos_iff.2 hl
      rw [linesFrom_cons _ hl, linesFrom_cons off hl, List.map_cons, ← ih _ k _ (by simp; omega)]
      rw [show off + k + cutLen 10 l + 1 = off + cutLen 10 l + 1 + k by omega]
      simp [shiftL]
theorem linesFrom_two (n : Nat) : ∀ (off : Nat) (p q : List UInt8), p.length ≤ n → linesFrom off (p ++ [10] ++ q) = linesFrom off (p ++ [10]) ++ linesFrom (off + p.length + 1) q := by
  induction n with
  | zero =>
    intro off p q h
    have : p = [] := List.eq_nil_of_length_eq_zero (by omega)
    subst this
    rw [linesFrom_cons off (by simp), linesFrom_cons off (by simp)]
    simp [cutLen, linesFrom_nil]
  | succ n ih =>
    intro off p q h
    rw [linesFrom_cons off (by simp), linesFrom_cons off (by simp)]
    have hc : ∀ r : List UInt8, cutLen 10 (p ++ [10] ++ r) = cutLen 10 p := by
      intro r
      clear h ih
      induction p with
      | nil => simp [cutLen]
      | cons a p ih =>
        simp only [cutLen, List.cons_append, List.takeWhile_cons] at *
        split
        · rw [List.length_cons, List.length_cons, ih]
        · rfl
    have hle := cutLen_le 10 p
    have h0 := hc []
    rw [List.append_nil] at h0
    rw [hc q, h0]
    have ht : ∀ r : List UInt8, (p ++ [10] ++ r).take (cutLen 10 p) = p.take (cutLen 10 p) := fun r => by
      rw [List.append_assoc, List.take_append_of_le_length hle]
    have t0 := ht []
    rw [List.append_nil] at t0
    rw [ht q, t0, List.cons_append]
    congr 1
    rcases Nat.lt_or_ge (cutLen 10 p) p.length with hlt | hge
    · have d1 : (p ++ [10] ++ q).drop (cutLen 10 p + 1) = p.drop (cutLen 10 p + 1) ++ [10] ++ q := by
        rw [List.append_assoc, List.append_assoc, List.drop_append_of_le_length (by omega)]
      have d2 : (p ++ [10]).drop (cutLen 10 p + 1) = p.drop (cutLen 10 p + 1) ++ [10] := by
        rw [List.drop_append_of_le_length (by omega)]
      rw [d1, d2, ih _ _ q (by simp; omega)]
      congr 2
      simp
      omega
    · have e : cutLen 10 p = p.length := by omega
      rw [e]
      have d1 : (p ++ [10] ++ q).drop (p.length + 1) = q := by
        have : (p ++ [10]).length = p.length + 1 := by simp
        rw [← this, List.drop_left]
      have d2 : (p ++ [10]).drop (p.length + 1) = [] := List.drop_of_length_le (by simp)
      rw [d1, d2, linesFrom_nil, List.nil_append]
theorem lines_two (p q : List UInt8) : lines (p ++ [10] ++ q) = lines (p ++ [10]) ++ (lines q).map (shiftL (p.length + 1)) := by
  unfold lines
  rw [linesFrom_two _ 0 p q (Nat.le_refl _), ← linesFrom_shift _ 0 (p.length + 1) q (Nat.le_refl _)]
  congr 2
theorem badAt_shift (num : Bool) (f : Nat × List UInt8 → Int × List UInt8) (hf : ∀ p, (f p).2 = p.2) (g : Nat × List UInt8 → Int × List UInt8) (hg : ∀ p, (g p).2 = p.2) (ws : List (Nat × List UInt8)) : badAt num (ws.map f) = none ↔ badAt num (ws.map g) = none := by
  induction ws with
  | nil => simp [badAt]
  | cons p r ih =>
    simp only [List.map_cons, badAt, hf, hg]
    split
    · simp
    · exact ih
theorem labs_shift (num : Bool) (f : Nat × List UInt8 → Int × List UInt8) (hf : ∀ p, (f p).2 = p.2) (g : Nat × List UInt8 → Int × List UInt8) (hg : ∀ p, (g p).2 = p.2) (ws : List (Nat × List UInt8)) : labs num (ws.map f) = labs num (ws.map g) := by
  simp [labs, List.map_map, Function.comp_def, hf, hg]
theorem edge_shift (a1 a2 : Int) (l : List UInt8) (num : Bool) : [It.t (edge a1 l num)].filter goodT = [It.t (edge a2 l num)].filter goodT := by
  unfold edge words
  rcases wordsFrom 0 l with _ | ⟨p, _ | ⟨q, _ | ⟨r, s⟩⟩⟩
  · simp [bad, It.t, goodT]
  · simp [bad, It.t, goodT]
  · simp only [List.map_cons, List.map_nil]
    cases label p.2 num with
    | none => simp [bad, It.t, goodT]
    | some a =>
      cases label q.2 num with
      | none => simp [bad, It.t, goodT]
      | some b => rfl
  · simp [bad, It.t, goodT]
theorem adj_shift (a1 a2 : Int) (l : List UInt8) (num : Bool) : (adj a1 l num).filter goodT = (adj a2 l num).filter goodT := by
  unfold adj words
  have h1 := badAt_shift num (fun p : Nat × List UInt8 => (a1 + (p.1 : Int), p.2)) (fun _ => rfl) (fun p => (a2 + (p.1 : Int), p.2)) (fun _ => rfl) (wordsFrom 0 l)
  have h2 := labs_shift num (fun p : Nat × List UInt8 => (a1 + (p.1 : Int), p.2)) (fun _ => rfl) (fun p => (a2 + (p.1 : Int), p.2)) (fun _ => rfl) (wordsFrom 0 l)
  by_cases hw : wordsFrom 0 l = []
  · simp [hw, goodT]
  · have n1 : ¬ (wordsFrom 0 l).map (fun p => (a1 + (p.1 : Int), p.2)) = [] := by simpa using hw
    have n2 : ¬ (wordsFrom 0 l).map (fun p => (a2 + (p.1 : Int), p.2)) = [] := by simpa using hw
    rw [if_neg n1, if_neg n2]
    rw [h2, List.length_map, List.length_map]
    cases hb1 : badAt num ((wordsFrom 0 l).map fun p => (a1 + (p.1 : Int), p.2)) with
    | none =>
      rw [h1.1 hb1]
    | some p1 =>
      cases hb2 : badAt num ((wordsFrom 0 l).map fun p => (a2 + (p.1 : Int), p.2)) with
      | none => rw [h1.2 hb2] at hb1; cases hb1
      | some p2 => simp [goodT]
theorem rawOf_shift (c : Cfg) (k : Nat) (x : Int × List UInt8) : (rawOf c (shiftL k x)).filter goodT = (rawOf c x).filter goodT := by
  unfold rawOf shiftL
  simp only
  split
  · rfl
  · split
    · exact edge_shift _ _ _ _
    · exact adj_shift _ _ _ _
theorem flat_shift (c : Cfg) (k : Nat) (l : List (Int × List UInt8)) : ((l.map (shiftL k)).flatMap (rawOf c)).filter goodT = (l.flatMap (rawOf c)).filter goodT := by
  induction l with
  | nil => rfl
  | cons x r ih => simp only [List.map_cons, List.flatMap_cons, List.filter_append, ih, rawOf_shift]
/-- The law FeedParts, plainly. -/
theorem parts_law (x y : List UInt8) (c : Cfg) (h : c.fmt ≠ 3) (hs : c.skip = true) : items (x ++ [10] ++ y) c = items (x ++ [10]) c ++ items y c := by
  unfold items
  split
  · unfold cutBad rawItems
    rw [hs]
    simp only [if_true, if_neg h]
    unfold rawLines
    rw [lines_two, List.flatMap_append, List.filter_append, flat_shift]
  · rfl
end Pl
theorem lit00 (W : World) : Own kb 5 (W.alloc (.cells #[] 5)) W.heap.size (.slice (some ⟨W.heap.size, 0, none⟩) 0 0) [] := lit_own W W.heap.size [] [] rfl (Nat.le_refl _) (by simp)

theorem lit00b (W : World) (g base : Nat) (hg : g = W.heap.size) (hb : base ≤ g) : Own kb 5 (W.alloc (.cells #[] 5)) base (.slice (some ⟨g, 0, none⟩) 0 0) [] := by
  subst hg
  exact lit_own W base [] [] rfl hb (by simp)
theorem lit10b (W : World) (g : Nat) (hg : g = W.heap.size) : Rd kb (W.alloc (.cells #[.int .u8 10] 5)) (.slice (some ⟨g, 0, none⟩) 1 1) [10] := by
  subst hg
  exact Kd.V_mono (lit_rd W 1 #[.int .u8 10] 5 (0, 0) [10] rfl (by simp) (by simp)) fun _ _ => trivial
theorem lit10g {W W1 : World} {g : Nat} {row : Option Nat} (h : W.heap[g]? = some (.cells #[.int .u8 10] 5)) (hg : W.grownBy W1 row) (hne : some g ≠ row) : Rd kb W1 (.slice (some ⟨g, 0, none⟩) 1 1) [10] := by
  have := blk_grown h hg hne
  exact Kd.V_mono (blk_rd (ok := fun _ => True) (xs := [10]) this rfl trivial (by simp) (by simp)) fun _ _ => trivial

end Go.Proofs.Ytchbfeejpdfmhaa
