import Derived.Test.YtjdcejbblcbjpaaDoorPlain
/-! The words of a line, letter by letter. -/
namespace Go.Proofs.YtjdcejbblcbjpaaDoor.Pl
/-- does nothing, or a blank, stand last -/
def lastBl (l : List UInt8) : Bool := match l.getLast? with
  | none => true
  | some b => isBl b
theorem wordsFrom_ne {off : Nat} {l : List UInt8} (h : l ≠ []) : wordsFrom off l = (if tok l = [] then [] else [(off, tok l)]) ++ wordsFrom (off + (tok l).length + 1) (l.drop ((tok l).length + 1)) := by
  rw [wordsFrom, dif_neg h]
theorem tok_snoc (l : List UInt8) (c : UInt8) : tok (l ++ [c]) = if (tok l).length = l.length then (if isBl c then l else l ++ [c]) else tok l := by
  unfold tok
  rw [List.takeWhile_append]
  split
  · rename_i h
    cases hc : isBl c <;> simp [hc]
  · rfl
theorem tok_all {l : List UInt8} (h : (tok l).length = l.length) : tok l = l := by
  have := tok_prefix l
  rw [h, List.take_of_length_le (Nat.le_refl _)] at this
  exact this
theorem lastBl_drop {l : List UInt8} {k : Nat} (hk : k < l.length) (hb : isBl (l.getD k 0) = true) : lastBl (l.drop (k + 1)) = lastBl l := by
  unfold lastBl
  rw [List.getLast?_drop]
  by_cases h : l.length ≤ k + 1
  · rw [if_pos h, show l.getLast? = some (l.getD k 0) from ?_]
    · exact hb.symm
    · rw [List.getLast?_eq_getElem?]
      have : l.length - 1 = k := by omega
      rw [this, List.getElem?_eq_getElem hk]
      simp [List.getD, hk]
  · rw [if_neg h]
theorem wf_snoc (n : Nat) : ∀ (off : Nat) (l : List UInt8) (c : UInt8), l.length ≤ n →
    (isBl c = true → wordsFrom off (l ++ [c]) = wordsFrom off l) ∧
    (isBl c = false → lastBl l = true → wordsFrom off (l ++ [c]) = wordsFrom off l ++ [(off + l.length, [c])]) ∧
    (isBl c = false → lastBl l = false → ∃ q m t, wordsFrom off l = q ++ [(m, t)] ∧ wordsFrom off (l ++ [c]) = q ++ [(m, t ++ [c])]) := by
  induction n with
  | zero =>
    intro off l c hl
    obtain rfl : l = [] := List.eq_nil_of_length_eq_zero (by omega)
    refine ⟨fun hc => ?_, fun hc _ => ?_, fun _ h => by simp [lastBl] at h⟩
    · rw [List.nil_append, wordsFrom_ne (by simp)]; simp [tok, hc, wordsFrom_nil]
    · rw [List.nil_append, wordsFrom_ne (by simp)]; simp [tok, hc, wordsFrom_nil]
  | succ n ih =>
    intro off l c hl
    by_cases hne : l = []
    · subst hne
      exact ih off [] c (by simp)
    · have hp : 0 < l.length := List.length_pos_iff.2 hne
      have hne2 : l ++ [c] ≠ [] := by simp
      by_cases ht : (tok l).length = l.length
      · have hall := tok_all ht
        have hw : wordsFrom off l = [(off, l)] := by
          rw [wordsFrom_ne hne, hall, if_neg hne, List.drop_of_length_le (by omega), wordsFrom_nil]
          rfl
        have hlast : lastBl l = false := by
          unfold lastBl
          have : l.getLast? = some (l.getLast hne) := List.getLast?_eq_some_getLast hne
          rw [this]
          exact tok_nb l _ (by rw [hall]; exact List.getLast_mem hne)
        have htk := tok_snoc l c
        rw [if_pos ht] at htk
        refine ⟨fun hc => ?_, fun _ h => (by rw [hlast] at h; cases h), fun hc _ => ⟨[], off, l, hw, ?_⟩⟩
        · rw [if_pos hc] at htk
          rw [wordsFrom_ne hne2, htk, if_neg hne, hw, List.drop_of_length_le (by simp), wordsFrom_nil]
          rfl
        · rw [if_neg (by simp [hc])] at htk
          rw [wordsFrom_ne hne2, htk, if_neg hne2, List.drop_of_length_le (by simp), wordsFrom_nil]
          rfl
      · have hlt : (tok l).length < l.length := by have := tok_le l; omega
        have htk := tok_snoc l c
        rw [if_neg ht] at htk
        have hd : (l ++ [c]).drop ((tok l).length + 1) = l.drop ((tok l).length + 1) ++ [c] := by
          rw [List.drop_append_of_le_length (by omega)]
        have hb : isBl (l.getD (tok l).length 0) = true := by
          have := tok_out l 0 (by omega)
          simp only [List.drop_zero, Nat.zero_add] at this
          exact this hlt
        have hlb := lastBl_drop hlt hb
        obtain ⟨i1, i2, i3⟩ := ih (off + (tok l).length + 1) (l.drop ((tok l).length + 1)) c (by simp; omega)
        have h1 : wordsFrom off (l ++ [c]) = (if tok l = [] then [] else [(off, tok l)]) ++ wordsFrom (off + (tok l).length + 1) (l.drop ((tok l).length + 1) ++ [c]) := by
          rw [wordsFrom_ne hne2, htk, hd]
        have h0 := wordsFrom_ne (off := off) hne
        refine ⟨fun hc => ?_, fun hc h => ?_, fun hc h => ?_⟩
        · rw [h1, i1 hc, ← h0]
        · rw [h1, i2 hc (by rw [hlb]; exact h), ← List.append_assoc, ← h0]
          congr 3
          simp
          omega
        · obtain ⟨q, m, t, e1, e2⟩ := i3 hc (by rw [hlb]; exact h)
          refine ⟨(if tok l = [] then [] else [(off, tok l)]) ++ q, m, t, ?_, ?_⟩
          · rw [h0, e1, List.append_assoc]
          · rw [h1, e2, List.append_assoc]
theorem words_blank (at_ : Int) (l : List UInt8) (c : UInt8) (hc : isBl c = true) : words at_ (l ++ [c]) = words at_ l := by
  unfold words; rw [(wf_snoc _ 0 l c (Nat.le_refl _)).1 hc]
theorem words_new (at_ : Int) (l : List UInt8) (c : UInt8) (hc : isBl c = false) (h : lastBl l = true) : words at_ (l ++ [c]) = words at_ l ++ [(at_ + (l.length : Int), [c])] := by
  unfold words; rw [(wf_snoc _ 0 l c (Nat.le_refl _)).2.1 hc h]; simp
theorem words_more (at_ : Int) (l : List UInt8) (c : UInt8) (hc : isBl c = false) (h : lastBl l = false) : ∃ q m t, words at_ l = q ++ [(m, t)] ∧ words at_ (l ++ [c]) = q ++ [(m, t ++ [c])] := by
  obtain ⟨q, m, t, e1, e2⟩ := (wf_snoc _ 0 l c (Nat.le_refl _)).2.2 hc h
  unfold words
  rw [e1, e2]
  exact ⟨q.map fun p => (at_ + (p.1 : Int), p.2), at_ + (m : Int), t, by simp, by simp⟩
theorem lastBl_take {l : List UInt8} {k : Nat} (h : k < l.length) : lastBl (l.take (k + 1)) = isBl (l.getD k 0) := by
  rw [take_snoc h]
  unfold lastBl
  simp
theorem wordFrom_le (n : Nat) : ∀ (off : Nat) (l : List UInt8), l.length ≤ n → ∀ p ∈ wordsFrom off l, p.2.length ≤ l.length := by
  induction n with
  | zero =>
    intro off l h
    obtain rfl : l = [] := List.eq_nil_of_length_eq_zero (by omega)
    rw [wordsFrom_nil]
    intro p hp
    simp at hp
  | succ n ih =>
    intro off l h p hp
    by_cases hne : l = []
    · subst hne
      rw [wordsFrom_nil] at hp
      simp at hp
    · rw [wordsFrom_ne hne] at hp
      have hpos : 0 < l.length := List.length_pos_iff.2 hne
      rcases List.mem_append.1 hp with hp | hp
      · split at hp
        · simp at hp
        · simp at hp
          subst hp
          exact tok_le l
      · have := ih _ _ (by simp; omega) p hp
        simp at this
        omega
theorem word_le (at_ : Int) (l : List UInt8) (p : Int × List UInt8) (h : p ∈ words at_ l) : p.2.length ≤ l.length := by
  unfold words at h
  obtain ⟨q, hq, rfl⟩ := List.mem_map.1 h
  exact wordFrom_le _ 0 l (Nat.le_refl _) q hq
theorem wf_skip (g : List UInt8) (hg : ∀ c ∈ g, isBl c = true) : ∀ (off : Nat) (r : List UInt8), wordsFrom off (g ++ r) = wordsFrom (off + g.length) r := by
  induction g with
  | nil => intro off r; rfl
  | cons b g ih =>
    intro off r
    have hb := hg b (by simp)
    have ht : tok (b :: (g ++ r)) = [] := by simp [tok, hb]
    rw [List.cons_append, wordsFrom_ne (by simp), ht, if_pos rfl, List.nil_append, List.length_nil, Nat.add_zero, Nat.zero_add, List.drop_succ_cons, List.drop_zero, ih (fun c hc => hg c (by simp [hc]))]
    congr 1
    simp
    omega
theorem tok_word (x : List UInt8) (hx : ∀ c ∈ x, isBl c = false) (b : UInt8) (r : List UInt8) (hb : isBl b = true) : tok (x ++ b :: r) = x := by
  induction x with
  | nil => simp [tok, hb]
  | cons c x ih =>
    have hc := hx c (by simp)
    have := ih (fun d hd => hx d (by simp [hd]))
    unfold tok at this ⊢
    rw [List.cons_append, List.takeWhile_cons, hc, this]
    rfl
theorem tok_whole (x : List UInt8) (hx : ∀ c ∈ x, isBl c = false) : tok x = x := by
  induction x with
  | nil => rfl
  | cons c x ih =>
    have hc := hx c (by simp)
    have := ih (fun d hd => hx d (by simp [hd]))
    unfold tok at this ⊢
    rw [List.takeWhile_cons, hc, this]
    rfl
theorem wf_word (x : List UInt8) (hx : ∀ c ∈ x, isBl c = false) (h1 : x ≠ []) (b : UInt8) (r : List UInt8) (hb : isBl b = true) (off : Nat) : wordsFrom off (x ++ b :: r) = (off, x) :: wordsFrom (off + x.length + 1) r := by
  rw [wordsFrom_ne (by simp), tok_word x hx b r hb, if_neg h1]
  simp
theorem wf_last (x : List UInt8) (hx : ∀ c ∈ x, isBl c = false) (h1 : x ≠ []) (off : Nat) : wordsFrom off x = [(off, x)] := by
  rw [wordsFrom_ne h1, tok_whole x hx, if_neg h1, List.drop_of_length_le (by omega), wordsFrom_nil]
  rfl
theorem wf_blanks (g : List UInt8) (hg : ∀ c ∈ g, isBl c = true) (off : Nat) : wordsFrom off g = [] := by
  have := wf_skip g hg off []
  rw [List.append_nil, wordsFrom_nil] at this
  exact this
/-- a word, with blanks or nothing behind -/
theorem wf_end (x g : List UInt8) (hx : ∀ c ∈ x, isBl c = false) (h1 : x ≠ []) (hg : ∀ c ∈ g, isBl c = true) (off : Nat) : wordsFrom off (x ++ g) = [(off, x)] := by
  rcases g with _ | ⟨b, g⟩
  · rw [List.append_nil]; exact wf_last x hx h1 off
  · rw [wf_word x hx h1 b g (hg b (by simp)), wf_blanks g (fun c hc => hg c (by simp [hc]))]
theorem two_words (g1 x g2 y g3 : List UInt8) (h1 : ∀ c ∈ g1, isBl c = true) (h2 : ∀ c ∈ g2, isBl c = true) (h3 : ∀ c ∈ g3, isBl c = true) (hg : g2 ≠ []) (hx : ∀ c ∈ x, isBl c = false) (hy : ∀ c ∈ y, isBl c = false) (x0 : x ≠ []) (y0 : y ≠ []) (at_ : Int) :
    ∃ i j, words at_ (g1 ++ x ++ g2 ++ y ++ g3) = [(i, x), (j, y)] := by
  obtain ⟨b, g, rfl⟩ : ∃ b g, g2 = b :: g := by
    rcases g2 with _ | ⟨b, g⟩
    · exact absurd rfl hg
    · exact ⟨b, g, rfl⟩
  unfold words
  rw [show g1 ++ x ++ b :: g ++ y ++ g3 = g1 ++ (x ++ b :: (g ++ (y ++ g3))) by simp]
  rw [wf_skip g1 h1, wf_word x hx x0 b _ (h2 b (by simp)), wf_skip g (fun c hc => h2 c (by simp [hc])), wf_end y g3 hy y0 h3]
  exact ⟨_, _, rfl⟩
end Go.Proofs.YtjdcejbblcbjpaaDoor.Pl
