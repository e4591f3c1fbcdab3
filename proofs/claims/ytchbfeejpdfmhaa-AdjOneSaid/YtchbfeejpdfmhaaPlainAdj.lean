import Derived.Test.YtchbfeejpdfmhaaItemKit
/-! What the items of a line tell, plainly. -/
namespace Go.Proofs.Ytchbfeejpdfmhaa.Pl
theorem wordsFrom_at (n : Nat) : ∀ (off : Nat) (l : List UInt8), l.length ≤ n → ∀ q ∈ wordsFrom off l, q.1 ≤ off + l.length := by
  induction n with
  | zero =>
    intro off l h q hq
    have : l = [] := List.eq_nil_of_length_eq_zero (by omega)
    subst this
    rw [wordsFrom_nil] at hq; simp at hq
  | succ n ih =>
    intro off l h q hq
    rw [wordsFrom] at hq
    split at hq
    · simp at hq
    · rename_i hne
      have hp : 0 < l.length := List.length_pos_iff.2 hne
      rcases List.mem_append.1 hq with h1 | h1
      · split at h1
        · simp at h1
        · simp at h1
          subst h1
          show off ≤ off + l.length
          omega
      · have := ih (off + (tok l).length + 1) (l.drop ((tok l).length + 1)) (by simp; omega) q h1
        by_cases hz : l.drop ((tok l).length + 1) = []
        · rw [hz, wordsFrom_nil] at h1; simp at h1
        · have := List.length_pos_iff.2 hz
          simp only [List.length_drop] at *
          omega
theorem words_at (l : List UInt8) : ∀ q ∈ words 0 l, 0 ≤ q.1 ∧ q.1 ≤ (l.length : Int) := by
  intro q hq
  obtain ⟨p, hp, rfl⟩ := List.mem_map.1 hq
  have := wordsFrom_at _ 0 l (Nat.le_refl _) p hp
  simp only
  omega
theorem badAt_mem {num : Bool} : ∀ {ws : List (Int × List UInt8)} {p : Int}, badAt num ws = some p → ∃ q ∈ ws, q.1 = p := by
  intro ws
  induction ws with
  | nil => intro p h; simp [badAt] at h
  | cons x r ih =>
    intro p h
    unfold badAt at h
    split at h
    · simp at h
      exact ⟨x, List.mem_cons_self, h⟩
    · obtain ⟨q, hq, e⟩ := ih h
      exact ⟨q, List.mem_cons_of_mem _ hq, e⟩
/-- a line tells what is wrong alone, or nothing that is wrong -/
theorem adj_tells (l : List UInt8) (num : Bool) :
    ((words 0 l).length = 0 ∧ adj 0 l num = [(false, [], [], 80, 0)]) ∨
    (0 < (words 0 l).length ∧ ∃ p : Int, p ≤ (l.length : Int) ∧ adj 0 l num = [(false, [], [], 81, p)]) ∨
    ((adj 0 l num).length = max ((words 0 l).length - 1) 1 ∧ ∃ a : List UInt8, a.length ≤ 32 ∧ ∀ x ∈ adj 0 l num, x.1 = decide (1 < (words 0 l).length) ∧ x.2.1 = a ∧ x.2.2.2.1 = 0 ∧ x.2.2.2.2 = 0) := by
  obtain ⟨ws, hws⟩ : ∃ ws, words 0 l = ws := ⟨_, rfl⟩
  rw [hws]
  by_cases h0 : ws.length = 0
  · exact .inl ⟨h0, adj_none hws h0⟩
  rcases hb : badAt num ws with _ | p
  · refine .inr (.inr ?_)
    by_cases h1 : ws.length = 1
    · rw [adj_one hws h1 hb]
      refine ⟨by rw [h1]; rfl, _, labs_head num ws, fun x hx => ?_⟩
      simp at hx
      subst hx
      simp [h1]
    · rw [adj_more hws (by omega) hb]
      refine ⟨by rw [mates_len, labs_len]; omega, (labs num ws).headD [], labs_head num ws, fun x hx => ?_⟩
      rcases hL : labs num ws with _ | ⟨a, r⟩
      · rw [hL] at hx; simp [mates] at hx
      · rw [hL] at hx
        obtain ⟨b, _, rfl⟩ := List.mem_map.1 hx
        refine ⟨?_, rfl, rfl, rfl⟩
        simp
        omega
  · refine .inr (.inl ⟨by omega, p, ?_, adj_bad hws hb⟩)
    obtain ⟨q, hq, rfl⟩ := badAt_mem hb
    exact (words_at l q (by rw [hws]; exact hq)).2
end Go.Proofs.Ytchbfeejpdfmhaa.Pl
