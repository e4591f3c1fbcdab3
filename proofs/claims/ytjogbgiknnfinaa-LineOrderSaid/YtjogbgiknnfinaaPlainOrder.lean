import Derived.Test.YtjogbgiknnfinaaRList
import Derived.Test.YtjogbgiknnfinaaPlain
/-! Lines and words stand in their order, apart. No program in sight. -/
namespace Go.Proofs.Ytjogbgiknnfinaa.Pl
/-- From a place on: lines that stand in x in their order, apart; what is between has P; the last ends at M. -/
def Chain (x : List UInt8) (M : Nat) (P : UInt8 → Bool) : Nat → List (Int × List UInt8) → Prop
  | at_, [] => at_ = M
  | at_, y :: r => ∃ n : Nat, y.1 = (n : Int) ∧ at_ ≤ n ∧ n + y.2.length ≤ M ∧ (x.drop n).take y.2.length = y.2 ∧ (∀ j, at_ ≤ j → j < n → P (x.getD j 0) = true) ∧ Chain x M P (n + y.2.length) r
def isEnd (c : UInt8) : Bool := c == 10 || c == 13

theorem trimB_pre (l : List UInt8) : (trimB 13 l = l) ∨ (∃ k, l.length = k + 1 ∧ trimB 13 l = l.take k ∧ l.getD k 0 = 13) := by
  unfold trimB
  split
  · rename_i h
    have := List.length_pos_iff.2 h.1
    exact .inr ⟨l.length - 1, by omega, rfl, h.2⟩
  · exact .inl rfl
theorem cutLen_sep (d : UInt8) (l : List UInt8) (h : cutLen d l < l.length) : l.getD (cutLen d l) 0 = d := by
  induction l with
  | nil => simp at h
  | cons a l ih =>
    simp only [cutLen, List.takeWhile_cons] at *
    split
    · rename_i ha
      rw [if_pos ha] at h
      simp only [List.length_cons, List.getD_cons_succ] at *
      exact ih (by omega)
    · rename_i ha
      simpa using ha
theorem lines_chain (x : List UInt8) (n : Nat) : ∀ (f at_ : Nat), x.length - f ≤ n → at_ ≤ x.length → at_ ≤ f → (∀ j, at_ ≤ j → j < f → j < x.length → isEnd (x.getD j 0) = true) →
    Chain x x.length isEnd at_ (linesFrom f (x.drop f) ++ [((x.length : Int), [])]) := by
  induction n with
  | zero =>
    intro f at_ h h1 h2 h3
    rw [List.drop_of_length_le (by omega), linesFrom_nil]
    refine ⟨x.length, rfl, h1, by simp, by simp, fun j k1 k2 => h3 j k1 (by omega) k2, ?_⟩
    simp [Chain]
  | succ n ih =>
    intro f at_ h h1 h2 h3
    by_cases hf : x.length ≤ f
    · rw [List.drop_of_length_le hf, linesFrom_nil]
      refine ⟨x.length, rfl, h1, by simp, by simp, fun j k1 k2 => h3 j k1 (by omega) k2, ?_⟩
      simp [Chain]
    · have hne : x.drop f ≠ [] := fun e => by have := congrArg List.length e; simp at this; omega
      have hcl := cutLen_le 10 (x.drop f)
      rw [List.length_drop] at hcl
      have hsep := cutLen_sep 10 (x.drop f)
      rw [linesFrom_cons f hne]
      obtain ⟨c, hc⟩ : ∃ c, cutLen 10 (x.drop f) = c := ⟨_, rfl⟩
      rw [hc] at hcl hsep ⊢
      rw [List.drop_drop, List.cons_append, show f + (c + 1) = f + c + 1 by omega]
      have hsep2 : f + c < x.length → x.getD (f + c) 0 = 10 := fun hh => by
        have := hsep (by rw [List.length_drop]; omega)
        simpa [List.getD, List.getElem?_drop] using this
      have hgl : ((x.drop f).take c).length = c := by simp; omega
      rcases trimB_pre ((x.drop f).take c) with he | ⟨k, hk, he, hd⟩
      · refine ⟨f, rfl, h2, ?_, ?_, fun j k1 k2 => h3 j k1 k2 (by omega), ?_⟩
        · show f + (trimB 13 _).length ≤ _
          rw [he, hgl]; omega
        · show (x.drop f).take (trimB 13 _).length = trimB 13 _
          rw [he, hgl]
        · show Chain x x.length isEnd (f + (trimB 13 _).length) _
          rw [he, hgl]
          refine ih _ _ (by omega) (by omega) (by omega) (fun j k1 k2 k3 => ?_)
          obtain rfl : j = f + c := by omega
          rw [hsep2 k3]
          rfl
      · rw [hgl] at hk
        have hkl : (((x.drop f).take c).take k).length = k := by simp; omega
        have hd2 : x.getD (f + k) 0 = 13 := by
          have : (((x.drop f).take c).getD k 0) = x.getD (f + k) 0 := by
            simp only [List.getD, List.getElem?_take, List.getElem?_drop]
            rw [if_pos (by omega)]
          rw [← this]; exact hd
        refine ⟨f, rfl, h2, ?_, ?_, fun j k1 k2 => h3 j k1 k2 (by omega), ?_⟩
        · show f + (trimB 13 _).length ≤ _
          rw [he, hkl]; omega
        · show (x.drop f).take (trimB 13 _).length = trimB 13 _
          rw [he, hkl, List.take_take, Nat.min_eq_left (by omega)]
        · show Chain x x.length isEnd (f + (trimB 13 _).length) _
          rw [he, hkl]
          refine ih _ _ (by omega) (by omega) (by omega) (fun j k1 k2 k3 => ?_)
          rcases Nat.lt_or_ge j (f + c) with hj | hj
          · obtain rfl : j = f + k := by omega
            rw [hd2]
            rfl
          · obtain rfl : j = f + c := by omega
            rw [hsep2 k3]
            rfl
theorem words_chain (x bs : List UInt8) (p n : Nat) (hb : (x.drop p).take bs.length = bs) (_hx : p + bs.length ≤ x.length) : ∀ (off at_ : Nat), bs.length - off ≤ n → at_ ≤ p + bs.length → at_ ≤ p + off → (∀ j, at_ ≤ j → j < p + off → j < p + bs.length → isBl (x.getD j 0) = true) →
    Chain x (p + bs.length) isBl at_ (((wordsFrom off (bs.drop off)).map fun q => ((p : Int) + (q.1 : Int), q.2)) ++ [((p : Int) + (bs.length : Int), [])]) := by
  have hget : ∀ j, j < bs.length → x.getD (p + j) 0 = bs.getD j 0 := fun j hj => by
    have : (((x.drop p).take bs.length).getD j 0) = x.getD (p + j) 0 := by
      simp only [List.getD, List.getElem?_take, List.getElem?_drop]
      rw [if_pos hj]
    rw [← this, hb]
  have hcut : ∀ off k, off + k ≤ bs.length → (x.drop (p + off)).take k = (bs.drop off).take k := fun off k hk => by
    conv => rhs; rw [← hb]
    rw [List.drop_take, List.take_take, List.drop_drop, Nat.min_eq_left (by omega)]
  have fin : ∀ at_, at_ ≤ p + bs.length → (∀ j, at_ ≤ j → j < p + bs.length → isBl (x.getD j 0) = true) → Chain x (p + bs.length) isBl at_ [((p : Int) + (bs.length : Int), [])] := fun at_ h1 h2 =>
    ⟨p + bs.length, by simp, h1, by simp, by simp, h2, by simp [Chain]⟩
  induction n with
  | zero =>
    intro off at_ h h1 h2 h3
    rw [List.drop_of_length_le (by omega), wordsFrom_nil]
    exact fin at_ h1 (fun j k1 k2 => h3 j k1 (by omega) k2)
  | succ n ih =>
    intro off at_ h h1 h2 h3
    by_cases hf : bs.length ≤ off
    · rw [List.drop_of_length_le hf, wordsFrom_nil]
      exact fin at_ h1 (fun j k1 k2 => h3 j k1 (by omega) k2)
    · have ho : off < bs.length := by omega
      rw [words_step bs off ho]
      have htl := tok_le (bs.drop off)
      rw [List.length_drop] at htl
      have htp := tok_prefix (bs.drop off)
      have hout := tok_out bs off (by omega)
      obtain ⟨T, hT⟩ : ∃ T, tok (bs.drop off) = T := ⟨_, rfl⟩
      rw [hT] at htl htp hout ⊢
      have nxt : ∀ j, off + T.length ≤ j → j < off + T.length + 1 → j < bs.length → isBl (x.getD (p + j) 0) = true := fun j k1 k2 k3 => by
        obtain rfl : j = off + T.length := by omega
        rw [hget _ k3]
        exact hout k3
      by_cases hT0 : T = []
      · subst hT0
        rw [if_pos rfl, List.nil_append]
        simp only [List.length_nil, Nat.add_zero] at nxt ⊢
        refine ih _ _ (by omega) h1 (by omega) (fun j k1 k2 k3 => ?_)
        rcases Nat.lt_or_ge j (p + off) with hj | hj
        · exact h3 j k1 hj k3
        · have := nxt (j - p) (by omega) (by omega) (by omega)
          rwa [show p + (j - p) = j by omega] at this
      · rw [if_neg hT0, List.map_append, List.map_cons, List.map_nil, List.append_assoc, List.singleton_append]
        refine ⟨p + off, by simp, h2, ?_, ?_, fun j k1 k2 => h3 j k1 k2 (by omega), ?_⟩
        · show p + off + T.length ≤ _
          omega
        · show (x.drop (p + off)).take T.length = T
          rw [hcut off T.length (by omega)]
          exact htp.symm
        · show Chain x (p + bs.length) isBl (p + off + T.length) _
          refine ih _ _ (by omega) (by omega) (by omega) (fun j k1 k2 k3 => ?_)
          have := nxt (j - p) (by omega) (by omega) (by omega)
          rwa [show p + (j - p) = j by omega] at this
end Go.Proofs.Ytjogbgiknnfinaa.Pl
