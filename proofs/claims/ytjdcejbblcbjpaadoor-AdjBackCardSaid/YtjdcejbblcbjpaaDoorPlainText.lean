import Derived.Test.YtjdcejbblcbjpaaDoorText8
/-! What Text tells, Label takes, and the other way about. No program in sight. -/
namespace Go.Proofs.YtjdcejbblcbjpaaDoor.Pl
theorem dec_val_aux (n : Nat) : ∀ l : List UInt8, l.length = n → 1 ≤ l.length → l.all dig = true → ¬ (l.getD 0 0 = 48 ∧ 1 < l.length) → dec (val l) = l := by
  induction n with
  | zero => intro l h1 h2; omega
  | succ n ih =>
    intro l h1 h2 ha hz
    have hne : l ≠ [] := fun e => by rw [e] at h2; simp at h2
    obtain ⟨m, c, rfl⟩ : ∃ m c, l = m ++ [c] := ⟨l.dropLast, l.getLast hne, (List.dropLast_concat_getLast hne).symm⟩
    rw [List.all_append] at ha
    simp only [Bool.and_eq_true] at ha
    obtain ⟨ha1, ha2⟩ := ha
    have hc : 48 ≤ c.toNat ∧ c.toNat ≤ 57 := by simpa [dig] using ha2
    have hcc : UInt8.ofNat (48 + (c.toNat - 48)) = c := by
      rw [show 48 + (c.toNat - 48) = c.toNat by omega]
      exact UInt8.ofNat_toNat
    rw [val_snoc]
    simp only [List.length_append, List.length_singleton] at h1 hz
    by_cases hm : m = []
    · subst hm
      have e0 : val [] = 0 := rfl
      rw [e0, dec_small (by omega), Nat.mul_zero, Nat.zero_add, hcc]
      rfl
    · have hml := List.length_pos_iff.2 hm
      have hg : (m ++ [c]).getD 0 0 = m.getD 0 0 := by
        simp only [List.getD_eq_getElem?_getD]
        rw [List.getElem?_append_left hml]
      rw [hg] at hz
      have hlead : m.getD 0 0 ≠ 48 := fun h => hz ⟨h, by omega⟩
      have hi := ih m (by omega) hml ha1 (fun h => hlead h.1)
      have hpos : 0 < val m := by
        rcases Nat.eq_zero_or_pos (val m) with h0 | h0
        · rw [h0, dec_small (by omega)] at hi
          rw [← hi] at hlead
          exact absurd rfl hlead
        · exact h0
      rw [dec_big (by omega), show (10 * val m + (c.toNat - 48)) / 10 = val m by omega, show (10 * val m + (c.toNat - 48)) % 10 = c.toNat - 48 by omega, hi, hcc]
theorem dec_val {l : List UInt8} (h : numOk l = true) : dec (val l) = l ∧ val l < 4294967296 := by
  unfold numOk at h
  simp only [Bool.and_eq_true, decide_eq_true_eq, Bool.not_eq_true', Bool.and_eq_false_iff, decide_eq_false_iff_not] at h
  obtain ⟨⟨⟨⟨h1, h2⟩, h3⟩, h4⟩, h5⟩ := h
  exact ⟨dec_val_aux _ l rfl h1 h4 (fun hh => by exact h3.elim (fun h => h hh.1) (fun h => h hh.2)), h5⟩
theorem fix_unfix {l : List UInt8} (h : l.length = 4) : fixB 4 (unfixB l) = l := by
  match l, h with
  | [a, b, c, d], _ =>
    have ha := a.toNat_lt
    have hb := b.toNat_lt
    have hc := c.toNat_lt
    have hd := d.toNat_lt
    have e : unfixB [a, b, c, d] = ((a.toNat * 256 + b.toNat) * 256 + c.toNat) * 256 + d.toNat := by simp [unfixB]
    have key : ∀ (i : Nat) (x : UInt8), unfixB [a, b, c, d] / 256 ^ i % 256 = x.toNat → byteAt (unfixB [a, b, c, d]) i = x := fun i x hx => UInt8.toNat_inj.1 (by rw [byteAt_toNat, hx])
    simp only [fixB]
    rw [key 3 a (by rw [e]; simp only [Nat.reducePow]; omega), key 2 b (by rw [e]; simp only [Nat.reducePow]; omega), key 1 c (by rw [e]; simp only [Nat.reducePow]; omega), key 0 d (by rw [e]; simp only [Nat.pow_zero, Nat.div_one]; omega)]
theorem text_fix {n : Nat} (h : n < 4294967296) : text (fixB 4 n) true = some (dec n) := by
  rw [text_num (fixB_len 4 n), unfix_fix, Nat.mod_eq_of_lt (by omega)]
/-- What is a label is the label of what it tells. -/
theorem text_label {l x : List UInt8} {num : Bool} (h : label l num = some x) : text x num = some l := by
  cases num with
  | false =>
    unfold label at h
    rw [if_neg (by simp)] at h
    split at h
    · rename_i hl
      cases h
      rw [text_word, label_some hl]
    · cases h
  | true =>
    unfold label at h
    rw [if_pos rfl] at h
    split at h
    · rename_i hl
      cases h
      obtain ⟨h1, h2⟩ := dec_val hl
      rw [text_fix h2, h1]
    · cases h
theorem label_text {l v : List UInt8} {num : Bool} (h : text l num = some v) : label v num = some l := by
  cases num with
  | false =>
    rw [text_word] at h
    unfold label at h
    rw [if_neg (by simp)] at h
    split at h
    · rename_i hl
      cases h
      rw [label_some hl]
    · cases h
  | true =>
    by_cases h4 : l.length = 4
    · rw [text_num h4] at h
      cases h
      have hN : unfixB l < 4294967296 := by have := unfixB_lt l; rw [h4] at this; omega
      rw [dec_label hN, fix_unfix h4]
    · rw [text_none h4] at h
      cases h
end Go.Proofs.YtjdcejbblcbjpaaDoor.Pl
