import Derived.Below
/-! Plain words: lines, words, labels as lists of bytes. No program in sight. -/
namespace Go.Proofs.YtjdcejbblcbjpaaDoor.Pl

/-- a blank -/
def isBl (c : UInt8) : Bool := c == 32 || c == 9
/-- what stands ahead of the first blank -/
def tok (l : List UInt8) : List UInt8 := l.takeWhile (fun c => !isBl c)
theorem tok_le (l : List UInt8) : (tok l).length ≤ l.length := by
  unfold tok
  induction l with
  | nil => simp
  | cons a l ih =>
    rw [List.takeWhile_cons]
    split
    · simp; exact ih
    · simp
/-- the words of a line, with how far in they begin -/
def wordsFrom (off : Nat) (l : List UInt8) : List (Nat × List UInt8) :=
  if _h : l = [] then [] else
  (if tok l = [] then [] else [(off, tok l)]) ++ wordsFrom (off + (tok l).length + 1) (l.drop ((tok l).length + 1))
termination_by l.length
decreasing_by
  have : 0 < l.length := List.length_pos_iff.2 _h
  simp; omega
/-- the words of a line that begins at a place -/
def words (at_ : Int) (l : List UInt8) : List (Int × List UInt8) := (wordsFrom 0 l).map fun p => (at_ + (p.1 : Int), p.2)

theorem wordsFrom_nil (off : Nat) : wordsFrom off [] = [] := by rw [wordsFrom]; simp
theorem tok_tail (l : List UInt8) (k : Nat) (h : k < l.length) (hk : isBl (l.getD k 0) = false) : tok (l.drop k) = l.getD k 0 :: tok (l.drop (k + 1)) := by
  rw [List.drop_eq_getElem_cons h, tok, List.takeWhile_cons]
  have e : l.getD k 0 = l[k] := by simp [List.getD, h]
  rw [e] at hk ⊢
  simp [hk, tok]
theorem tok_stop (l : List UInt8) (k : Nat) (h : k < l.length) (hk : isBl (l.getD k 0) = true) : tok (l.drop k) = [] := by
  rw [List.drop_eq_getElem_cons h, tok, List.takeWhile_cons]
  have e : l.getD k 0 = l[k] := by simp [List.getD, h]
  rw [e] at hk
  simp [hk]
set_option linter.unusedVariables false in
theorem tok_end (l : List UInt8) (k : Nat) (h : l.length ≤ k) : tok (l.drop k) = [] := by
  rw [List.drop_of_length_le h]; rfl
theorem words_step (l : List UInt8) (k : Nat) (h : k < l.length) :
    wordsFrom k (l.drop k) = (if tok (l.drop k) = [] then [] else [(k, tok (l.drop k))]) ++ wordsFrom (k + (tok (l.drop k)).length + 1) (l.drop (k + (tok (l.drop k)).length + 1)) := by
  rw [wordsFrom]
  have hne : l.drop k ≠ [] := by
    intro e
    have := congrArg List.length e
    simp at this
    omega
  rw [dif_neg hne, List.drop_drop]
  rw [show k + ((tok (l.drop k)).length + 1) = k + (tok (l.drop k)).length + 1 by omega]
theorem tok_prefix (l : List UInt8) : tok l = l.take (tok l).length := by
  unfold tok
  induction l with
  | nil => rfl
  | cons a l ih =>
    rw [List.takeWhile_cons]
    split
    · simp only [List.length_cons, List.take_succ_cons]
      rw [← ih]
    · rfl
theorem tok_len_le (l : List UInt8) (k : Nat) (h : k ≤ l.length) : k + (tok (l.drop k)).length ≤ l.length := by
  have := tok_le (l.drop k)
  simp at this
  omega
theorem tok_cut (l : List UInt8) (k : Nat) : tok (l.drop k) = (l.take (k + (tok (l.drop k)).length)).drop k := by
  rw [List.drop_take]
  rw [show k + (tok (l.drop k)).length - k = (tok (l.drop k)).length by omega]
  exact tok_prefix _
theorem tok_nb (l : List UInt8) : ∀ c ∈ tok l, isBl c = false := by
  induction l with
  | nil => intro c h; simp [tok] at h
  | cons a l ih =>
    intro c h
    rw [tok, List.takeWhile_cons] at h
    split at h
    · rename_i ha
      rcases List.mem_cons.1 h with rfl | h
      · simpa using ha
      · exact ih c h
    · simp at h
theorem tok_in (l : List UInt8) (k j : Nat) (hj : k ≤ j) (h : j < k + (tok (l.drop k)).length) : j < l.length ∧ isBl (l.getD j 0) = false := by
  obtain ⟨m, rfl⟩ : ∃ m, j = k + m := ⟨j - k, by omega⟩
  have hk : k ≤ l.length := by
    have := tok_le (l.drop k)
    simp at this
    omega
  have hlt : k + m < l.length := by have := tok_len_le l k hk; omega
  refine ⟨hlt, ?_⟩
  have hm : m < (tok (l.drop k)).length := by omega
  have h1 : (tok (l.drop k))[m]'hm = (l.drop k)[m]'(by simp; omega) := by
    have hp := tok_prefix (l.drop k)
    have : (tok (l.drop k))[m]? = (l.drop k)[m]? := by
      rw [hp, List.getElem?_take]
      simp
      omega
    rw [List.getElem?_eq_getElem hm, List.getElem?_eq_getElem (by simp; omega)] at this
    exact Option.some.inj this
  have h2 : isBl ((tok (l.drop k))[m]'hm) = false :=
     tok_nb _ _ (List.getElem_mem hm)
  rw [h1] at h2
  simpa [List.getD, hlt] using h2
theorem tok_out (l : List UInt8) (k : Nat) (hk : k ≤ l.length) (h : k + (tok (l.drop k)).length < l.length) : isBl (l.getD (k + (tok (l.drop k)).length) 0) = true := by
  have gen : ∀ (n : Nat) (m : List UInt8), m.length = n → (tok m).length < m.length → isBl (m.getD (tok m).length 0) = true := by
    intro n
    induction n with
    | zero => intro m hm h; omega
    | succ n ih =>
      intro m hm h
      rcases m with _ | ⟨a, m⟩
      · simp at hm
      · by_cases ha : isBl a = true
        · have : tok (a :: m) = [] := by rw [tok, List.takeWhile_cons]; simp [ha]
          rw [this]
          simpa using ha
        · have e : tok (a :: m) = a :: tok m := by rw [tok, List.takeWhile_cons]; simp [ha, tok]
          rw [e] at h ⊢
          simp only [List.length_cons, List.getD_cons_succ] at h ⊢
          exact ih m (by simpa using hm) (by omega)
  have := gen _ (l.drop k) rfl (by simp; omega)
  simpa [List.getD] using this
/-- how many words there may be -/
theorem wordsFrom_len (n : Nat) : ∀ (off : Nat) (l : List UInt8), l.length ≤ n → (wordsFrom off l).length ≤ l.length := by
  induction n with
  | zero =>
    intro off l h
    have : l = [] := List.eq_nil_of_length_eq_zero (by omega)
    subst this
    rw [wordsFrom_nil]; simp
  | succ n ih =>
    intro off l h
    rw [wordsFrom]
    split
    · simp
    · rename_i hne
      have hp : 0 < l.length := List.length_pos_iff.2 hne
      have h1 := ih (off + (tok l).length + 1) (l.drop ((tok l).length + 1)) (by simp; omega)
      rw [List.length_append]
      simp only [List.length_drop] at h1
      split <;> simp <;> omega
theorem words_len (at_ : Int) (l : List UInt8) : (words at_ l).length ≤ l.length := by
  unfold words; rw [List.length_map]; exact wordsFrom_len _ _ _ (Nat.le_refl _)

/-! ### Labels -/
/-- is it one of the digits 0 to 9 -/
def dig (c : UInt8) : Bool := decide (48 ≤ c.toNat ∧ c.toNat ≤ 57)
/-- the number that digits tell -/
def val (l : List UInt8) : Nat := l.foldl (fun n c => 10 * n + (c.toNat - 48)) 0
theorem val_snoc (l : List UInt8) (c : UInt8) : val (l ++ [c]) = 10 * val l + (c.toNat - 48) := by unfold val; rw [List.foldl_append]; rfl
theorem val_lt (l : List UInt8) (h : l.all dig = true) : val l < 10 ^ l.length := by
  have gen : ∀ (n : Nat) (l : List UInt8), l.length = n → l.all dig = true → val l < 10 ^ n := by
    intro n
    induction n with
    | zero =>
      intro l hl _
      rw [List.eq_nil_of_length_eq_zero hl]
      decide
    | succ n ih =>
      intro l hl h
      have hne : l ≠ [] := fun e => by rw [e] at hl; simp at hl
      obtain ⟨q, c, rfl⟩ : ∃ q c, l = q ++ [c] := ⟨_, _, (List.dropLast_concat_getLast hne).symm⟩
      rw [val_snoc]
      rw [List.all_append, Bool.and_eq_true] at h
      have h1 := ih q (by simpa using hl) h.1
      have h2 : dig c = true := by simpa using h.2
      have h3 := of_decide_eq_true h2
      rw [Nat.pow_succ]
      omega
  exact gen _ l rfl h
/-- do bytes tell a number that is a label -/
def numOk (l : List UInt8) : Bool := decide (1 ≤ l.length) && decide (l.length ≤ 10) && !(decide (l.getD 0 0 = 48) && decide (1 < l.length)) && l.all dig && decide (val l < 4294967296)
theorem numOk_of {l : List UInt8} (h1 : 1 ≤ l.length) (h10 : l.length ≤ 10) (hz : ¬ (l.getD 0 0 = 48 ∧ 1 < l.length)) (ha : l.all dig = true) : numOk l = decide (val l < 4294967296) := by
  have e1 : decide (1 ≤ l.length) = true := decide_eq_true h1
  have e2 : decide (l.length ≤ 10) = true := decide_eq_true h10
  have e3 : (decide (l.getD 0 0 = 48) && decide (1 < l.length)) = false := by
    rw [← Bool.decide_and]
    exact decide_eq_false hz
  unfold numOk
  rw [e1, e2, e3, ha]
  simp
/-- a number's byte, from the lowest -/
def byteAt (n i : Nat) : UInt8 := UInt8.ofNat (n / 256 ^ i)
theorem byteAt_int (n i : Nat) : ((byteAt n i).toNat : Int) = (n : Int) / 2 ^ (8 * i) % 256 := by
  have h : (byteAt n i).toNat = n / 256 ^ i % 256 := by simp [byteAt]
  have h2 : (256 : Nat) ^ i = 2 ^ (8 * i) := by rw [Nat.pow_mul]
  rw [h, h2, Int.natCast_emod, Int.natCast_ediv, Int.natCast_pow]
  rfl
/-- a number in so many bytes, the highest first -/
def fixB : Nat → Nat → List UInt8
  | 0, _ => []
  | k + 1, n => byteAt n k :: fixB k n
theorem fixB_len (k n : Nat) : (fixB k n).length = k := by
  induction k with
  | zero => rfl
  | succ k ih => simp [fixB, ih]
/-- the label that a word is -/
def label (l : List UInt8) (num : Bool) : Option (List UInt8) :=
  if num then (if numOk l then some (fixB 4 (val l)) else none)
  else if 1 ≤ l.length ∧ l.length ≤ 32 then some l else none
theorem label_num_some {l : List UInt8} (h : numOk l = true) : label l true = some (fixB 4 (val l)) := by simp [label, h]
theorem label_num_none {l : List UInt8} (h : numOk l = false) : label l true = none := by simp [label, h]
theorem label_some {l : List UInt8} (h : 1 ≤ l.length ∧ l.length ≤ 32) : label l false = some l := by simp [label, h]
theorem label_none {l : List UInt8} (h : ¬ (1 ≤ l.length ∧ l.length ≤ 32)) : label l false = none := by simp [label, h]
theorem take_snoc {l : List UInt8} {k : Nat} (h : k < l.length) : l.take (k + 1) = l.take k ++ [l.getD k 0] := by
  rw [List.take_succ_eq_append_getElem h]; simp [List.getD, h]
theorem all_take {l : List UInt8} {k : Nat} {p : UInt8 → Bool} (h : k < l.length) (hp : p (l.getD k 0) = true) (ha : (l.take k).all p = true) : (l.take (k + 1)).all p = true := by
  rw [take_snoc h, List.all_append, ha]; simpa using hp
theorem all_not {l : List UInt8} {k : Nat} {p : UInt8 → Bool} (h : k < l.length) (hp : p (l.getD k 0) = false) : l.all p = false := by
  rw [List.all_eq_false]
  refine ⟨l[k], List.getElem_mem h, ?_⟩
  simpa [List.getD, h] using hp

/-! ### Items -/
/-- What a line tells. -/
structure It where
  two : Bool
  a : List UInt8
  b : List UInt8
  code : Int
  at_ : Int
/-- what is wrong, and where -/
def bad (code at_ : Int) : It := ⟨false, [], [], code, at_⟩
/-- the edge that a line is -/
def edge (at_ : Int) (l : List UInt8) (num : Bool) : It :=
  match words at_ l with
  | [x, y] => match label x.2 num with
    | none => bad 81 x.1
    | some a => match label y.2 num with
      | none => bad 81 y.1
      | some b => ⟨true, a, b, 0, 0⟩
  | _ => bad 80 at_
end Go.Proofs.YtjdcejbblcbjpaaDoor.Pl
