import Derived.Test.YtjdcejbblcbjpaaDoorPlain
import GoSem.Op.String
/-! Numbers in digits; the order of numbers in bytes. -/
namespace Go.Proofs.YtjdcejbblcbjpaaDoor.Pl
/-- a number's digits -/
def dec (n : Nat) : List UInt8 := if n < 10 then [UInt8.ofNat (48 + n)] else dec (n / 10) ++ [UInt8.ofNat (48 + n % 10)]
termination_by n
decreasing_by omega
theorem dec_small {n : Nat} (h : n < 10) : dec n = [UInt8.ofNat (48 + n)] := by rw [dec, if_pos h]
theorem dec_big {n : Nat} (h : ¬ n < 10) : dec n = dec (n / 10) ++ [UInt8.ofNat (48 + n % 10)] := by rw [dec, if_neg h]
theorem dig_of (m : Nat) (h : m < 10) : dig (UInt8.ofNat (48 + m)) = true ∧ (UInt8.ofNat (48 + m)).toNat - 48 = m := by
  have e : (UInt8.ofNat (48 + m)).toNat = 48 + m := by simp; omega
  unfold dig
  rw [e]
  exact ⟨decide_eq_true (by omega), by omega⟩
theorem dec_all (n : Nat) : (dec n).all dig = true ∧ val (dec n) = n ∧ 1 ≤ (dec n).length ∧ ∀ k, 1 ≤ k → n < 10 ^ k → (dec n).length ≤ k := by
  induction n using Nat.strongRecOn with
  | _ n ih =>
    by_cases h : n < 10
    · rw [dec_small h]
      obtain ⟨h1, h2⟩ := dig_of n h
      exact ⟨by rw [List.all_cons, h1]; rfl, by simp only [val, List.foldl]; omega, by simp, fun k hk _ => by simp; omega⟩
    · rw [dec_big h]
      obtain ⟨i1, i2, i3, i4⟩ := ih (n / 10) (by omega)
      obtain ⟨h1, h2⟩ := dig_of (n % 10) (by omega)
      refine ⟨by rw [List.all_append, i1, List.all_cons, h1]; rfl, by rw [val_snoc, i2, h2]; omega, by simp, fun k hk hn => ?_⟩
      rcases k with _ | _ | k
      · omega
      · simp at hn; omega
      · have := i4 (k + 1) (by omega) (by rw [Nat.pow_succ] at hn; omega)
        simp; omega
theorem dec_lead (n : Nat) : ¬ ((dec n).getD 0 0 = 48 ∧ 1 < (dec n).length) ∧ (0 < n → (dec n).getD 0 0 ≠ 48) := by
  induction n using Nat.strongRecOn with
  | _ n ih =>
    by_cases h : n < 10
    · rw [dec_small h]
      refine ⟨by simp, fun hp he => ?_⟩
      have e : (UInt8.ofNat (48 + n)).toNat = 48 + n := by simp; omega
      have := congrArg UInt8.toNat he
      simp only [List.getD_cons_zero] at this
      rw [e] at this
      have h48 : (48 : UInt8).toNat = 48 := rfl
      omega
    · rw [dec_big h]
      have hl := (dec_all (n / 10)).2.2.1
      have e : (dec (n / 10) ++ [UInt8.ofNat (48 + n % 10)]).getD 0 0 = (dec (n / 10)).getD 0 0 := by
        simp only [List.getD_eq_getElem?_getD]
        rw [List.getElem?_append_left (by omega)]
      rw [e]
      have := (ih (n / 10) (by omega)).2 (by omega)
      exact ⟨fun hc => this hc.1, fun _ => this⟩
theorem dec_numOk {n : Nat} (h : n < 4294967296) : numOk (dec n) = true := by
  obtain ⟨h1, h2, h3, h4⟩ := dec_all n
  rw [numOk_of h3 (h4 10 (by omega) (by omega)) (dec_lead n).1 h1, h2]
  exact decide_eq_true h
theorem dec_label {n : Nat} (h : n < 4294967296) : label (dec n) true = some (fixB 4 n) := by
  rw [label_num_some (dec_numOk h), (dec_all n).2.1]

/-- the number that bytes are -/
def unfixB (l : List UInt8) : Nat := l.foldl (fun n c => n * 256 + c.toNat) 0
theorem unfix_from (l : List UInt8) : ∀ m : Nat, l.foldl (fun n c => n * 256 + c.toNat) m = m * 256 ^ l.length + unfixB l := by
  induction l with
  | nil => intro m; simp [unfixB]
  | cons c l ih =>
    intro m
    simp only [List.foldl_cons, List.length_cons, unfixB]
    rw [ih, ih (0 * 256 + c.toNat)]
    rw [Nat.pow_succ, Nat.add_mul, Nat.mul_assoc, Nat.mul_comm 256, Nat.zero_mul, Nat.zero_add, Nat.add_assoc]
theorem byteAt_toNat (n i : Nat) : (byteAt n i).toNat = n / 256 ^ i % 256 := by simp [byteAt]
theorem unfix_fix (k n : Nat) : unfixB (fixB k n) = n % 256 ^ k := by
  induction k with
  | zero => simp [unfixB, fixB, Nat.mod_one]
  | succ k ih =>
    simp only [fixB, unfixB, List.foldl_cons]
    rw [unfix_from, fixB_len, ih, Nat.mod_pow_succ, byteAt_toNat]
    rw [Nat.zero_mul, Nat.zero_add, Nat.mul_comm, Nat.add_comm]
theorem fixB_inj {a b : Nat} (ha : a < 4294967296) (hb : b < 4294967296) : fixB 4 a = fixB 4 b ↔ a = b := by
  constructor
  · intro h
    have := congrArg unfixB h
    rw [unfix_fix, unfix_fix] at this
    rw [Nat.mod_eq_of_lt (by omega), Nat.mod_eq_of_lt (by omega)] at this
    exact this
  · intro h; rw [h]
theorem less_fix (k a b : Nat) : Op.bytesLess (fixB k a) (fixB k b) = decide (a % 256 ^ k < b % 256 ^ k) := by
  induction k with
  | zero => simp [fixB, Op.bytesLess, Nat.mod_one]
  | succ k ih =>
    simp only [fixB, Op.bytesLess]
    rw [ih, Nat.mod_pow_succ, Nat.mod_pow_succ]
    have hx := byteAt_toNat a k
    have hy := byteAt_toNat b k
    have ra := Nat.mod_lt a (show 0 < 256 ^ k from Nat.pow_pos (by omega))
    have rb := Nat.mod_lt b (show 0 < 256 ^ k from Nat.pow_pos (by omega))
    generalize byteAt a k = x at *
    generalize byteAt b k = y at *
    rw [← hx, ← hy]
    generalize 256 ^ k = P at *
    generalize a % P = u at *
    generalize b % P = v at *
    rw [Bool.eq_iff_iff]
    simp only [Bool.or_eq_true, Bool.and_eq_true, decide_eq_true_eq, beq_iff_eq, UInt8.lt_iff_toNat_lt]
    rcases Nat.lt_trichotomy x.toNat y.toNat with h | h | h
    · have h2 := Nat.mul_le_mul_left P (show x.toNat + 1 ≤ y.toNat from h)
      rw [Nat.mul_add, Nat.mul_one] at h2
      exact ⟨fun _ => by omega, fun _ => .inl h⟩
    · have h2 : x = y := UInt8.toNat_inj.1 h
      subst h2
      exact ⟨fun h3 => by rcases h3 with h3 | h3 <;> omega, fun h3 => .inr ⟨rfl, by omega⟩⟩
    · have h2 := Nat.mul_le_mul_left P (show y.toNat + 1 ≤ x.toNat from h)
      rw [Nat.mul_add, Nat.mul_one] at h2
      refine ⟨fun h3 => ?_, fun h3 => ?_⟩
      · rcases h3 with h3 | ⟨h3, _⟩
        · omega
        · rw [h3] at h; omega
      · omega
end Go.Proofs.YtjdcejbblcbjpaaDoor.Pl
