import Derived.Test.YtjdcejbblcbjpaaDoorCut
/-! The lines of a text, plainly. -/
namespace Go.Proofs.YtjdcejbblcbjpaaDoor.Pl
/-- the lines of a text, with how far in they begin -/
def linesFrom (off : Nat) (l : List UInt8) : List (Int × List UInt8) :=
  if _h : l = [] then [] else
  ((off : Int), trimB 13 (l.take (cutLen 10 l))) :: linesFrom (off + cutLen 10 l + 1) (l.drop (cutLen 10 l + 1))
termination_by l.length
decreasing_by
  have : 0 < l.length := List.length_pos_iff.2 _h
  simp; omega
def lines (l : List UInt8) : List (Int × List UInt8) := linesFrom 0 l
theorem linesFrom_nil (off : Nat) : linesFrom off [] = [] := by rw [linesFrom]; simp
theorem linesFrom_cons (off : Nat) {l : List UInt8} (h : l ≠ []) : linesFrom off l = ((off : Int), trimB 13 (l.take (cutLen 10 l))) :: linesFrom (off + cutLen 10 l + 1) (l.drop (cutLen 10 l + 1)) := by
  rw [linesFrom, dif_neg h]
theorem trimB_le (d : UInt8) (l : List UInt8) : (trimB d l).length ≤ l.length := by
  unfold trimB
  split
  · simp <;> omega
  · exact Nat.le_refl _
theorem linesFrom_len (n : Nat) : ∀ (off : Nat) (l : List UInt8), l.length ≤ n → (linesFrom off l).length ≤ l.length := by
  induction n with
  | zero =>
    intro off l h
    have : l = [] := List.eq_nil_of_length_eq_zero (by omega)
    subst this
    rw [linesFrom_nil]; simp
  | succ n ih =>
    intro off l h
    by_cases hl : l = []
    · subst hl; rw [linesFrom_nil]; simp
    · have hp := List.length_pos_iff.2 hl
      rw [linesFrom_cons off hl]
      have := ih (off + cutLen 10 l + 1) (l.drop (cutLen 10 l + 1)) (by simp; omega)
      simp only [List.length_cons, List.length_drop] at *
      omega
theorem lines_len (l : List UInt8) : (lines l).length ≤ l.length := linesFrom_len _ 0 l (Nat.le_refl _)
end Go.Proofs.YtjdcejbblcbjpaaDoor.Pl
