import Derived.Test.YtfppbkpdpapemaaDoorSeal
/-! A sealed text of which bits were turned, within thirty-two side by side, is none. No program in sight. -/
set_option linter.unusedSimpArgs false
set_option linter.unusedVariables false
namespace Go.Proofs.YtfppbkpdpapemaaDoor.Pl
theorem crcStep_xor (a b : Nat) : crcStep (a ^^^ b) = crcStep a ^^^ crcStep b := by
  have h2 : (a ^^^ b) / 2 = a / 2 ^^^ b / 2 := Nat.xor_div_two
  have h1 : (a ^^^ b) % 2 = (a + b) % 2 := by
    have h3 : (a ^^^ b) % 2 = a % 2 ^^^ b % 2 := Nat.xor_mod_two_pow (n := 1)
    rw [h3]
    rcases Nat.mod_two_eq_zero_or_one a with ha | ha <;> rcases Nat.mod_two_eq_zero_or_one b with hb | hb <;> rw [ha, hb] <;> (try simp) <;> omega
  have s1 : ∀ x y z : Nat, x ^^^ z ^^^ (y ^^^ z) = x ^^^ y := fun x y z => by
    rw [Nat.xor_comm y z, ← Nat.xor_assoc, Nat.xor_assoc x z z, Nat.xor_self, Nat.xor_zero]
  have s2 : ∀ x y z : Nat, x ^^^ y ^^^ z = x ^^^ z ^^^ y := fun x y z => by
    rw [Nat.xor_assoc, Nat.xor_comm y z, ← Nat.xor_assoc]
  unfold crcStep
  rw [h2]
  rcases Nat.mod_two_eq_zero_or_one a with ha | ha <;> rcases Nat.mod_two_eq_zero_or_one b with hb | hb
  · rw [if_neg (by omega), if_neg (by omega), if_neg (by omega)]
  · rw [if_pos (by omega), if_neg (by omega), if_pos (by omega), Nat.xor_assoc]
  · rw [if_pos (by omega), if_pos (by omega), if_neg (by omega), s2]
  · rw [if_neg (by omega), if_pos (by omega), if_pos (by omega), s1]
theorem crcIter_xor (a b : Nat) : ∀ k, crcIter k (a ^^^ b) = crcIter k a ^^^ crcIter k b
  | 0 => rfl
  | k + 1 => by
    show crcStep (crcIter k (a ^^^ b)) = _
    rw [crcIter_xor a b k, crcStep_xor]
    rfl
theorem crcIter_zero : ∀ k, crcIter k 0 = 0
  | 0 => rfl
  | k + 1 => by
    show crcStep (crcIter k 0) = 0
    rw [crcIter_zero k]
    rfl
theorem crcIter_add (n : Nat) (c : Nat) : ∀ m, crcIter (n + m) c = crcIter m (crcIter n c)
  | 0 => rfl
  | m + 1 => by
    show crcStep (crcIter (n + m) c) = crcStep (crcIter m (crcIter n c))
    rw [crcIter_add n c m]
theorem crcStep_two (c : Nat) : crcStep (2 * c) = c := by
  unfold crcStep
  rw [if_neg (by omega)]
  omega
theorem crcIter_shift : ∀ (k c : Nat), crcIter k (2 ^ k * c) = c
  | 0, c => by show 2 ^ 0 * c = c; omega
  | k + 1, c => by
    show crcStep (crcIter k (2 ^ (k + 1) * c)) = c
    rw [Nat.pow_succ, Nat.mul_assoc, crcIter_shift k (2 * c), crcStep_two]
theorem crcStep_pos {c : Nat} (h0 : 0 < c) (h : c < 4294967296) : 0 < crcStep c := by
  unfold crcStep
  split
  · rcases Nat.eq_zero_or_pos (c / 2 ^^^ 2197175160) with h1 | h1
    · have h2 : c / 2 = 2197175160 := by
        have h3 : c / 2 ^^^ 2197175160 ^^^ 2197175160 = 2197175160 := by rw [h1, Nat.zero_xor]
        rwa [Nat.xor_assoc, Nat.xor_self, Nat.xor_zero] at h3
      omega
    · exact h1
  · omega
theorem crcIter_pos {c : Nat} (h0 : 0 < c) (h : c < 4294967296) : ∀ k, 0 < crcIter k c
  | 0 => h0
  | k + 1 => crcStep_pos (crcIter_pos h0 h k) (crcIter_lt h k)
/-- a sum of a low and a high part -/
theorem low_high (k a N : Nat) (h : a < 2 ^ k) : a + 2 ^ k * N = a ^^^ 2 ^ k * N := by
  apply Nat.eq_of_testBit_eq
  intro i
  rw [Nat.add_comm, Nat.testBit_xor, Nat.testBit_two_pow_mul_add N h, Nat.testBit_two_pow_mul]
  by_cases hi : i < k
  · simp [hi, Nat.not_le.2 hi]
  · rw [Nat.testBit_lt_two_pow (x := a) (i := i) (Nat.lt_of_lt_of_le h (Nat.pow_le_pow_right (by decide) (Nat.not_lt.1 hi)))]
    simp [hi, Nat.not_lt.1 hi]
theorem mul_xor (k a b : Nat) : 2 ^ k * (a ^^^ b) = 2 ^ k * a ^^^ 2 ^ k * b := by
  apply Nat.eq_of_testBit_eq
  intro i
  simp only [Nat.testBit_xor, Nat.testBit_two_pow_mul]
  by_cases hi : k ≤ i <;> simp [hi]
/-- bytes as one number, the first the lowest -/
def numL : List UInt8 → Nat
  | [] => 0
  | c :: r => c.toNat + 2 ^ 8 * numL r
theorem crcByte_iter (c : Nat) (b : Nat) (hb : b < 256) : crcByte c b = crcIter 8 (c ^^^ b) := by
  have hx : (c ^^^ b) = (c ^^^ b) % 2 ^ 8 ^^^ 2 ^ 8 * ((c ^^^ b) / 2 ^ 8) := by
    rw [← low_high 8 _ _ (Nat.mod_lt _ (by decide))]
    exact (Nat.mod_add_div _ _).symm
  have hd : (c ^^^ b) / 2 ^ 8 = c / 2 ^ 8 := by
    rw [Nat.xor_div_two_pow, Nat.div_eq_of_lt (show b < 2 ^ 8 from hb), Nat.xor_zero]
  rw [hx, crcIter_xor, crcIter_shift, hd]
  rfl
theorem crcGo_iter : ∀ (l : List UInt8) (c : Nat), crcGo c l = crcIter (8 * l.length) (c ^^^ numL l)
  | [], c => by show c = c ^^^ 0; rw [Nat.xor_zero]
  | b :: r, c => by
    have h1 : crcGo c (b :: r) = crcGo (crcByte c b.toNat) r := rfl
    rw [h1, crcGo_iter r, crcByte_iter c b.toNat b.toNat_lt]
    show _ = crcIter (8 * (r.length + 1)) (c ^^^ (b.toNat + 2 ^ 8 * numL r))
    rw [low_high 8 _ _ b.toNat_lt, ← Nat.xor_assoc, show 8 * (r.length + 1) = 8 + 8 * r.length by omega, crcIter_add, crcIter_xor _ (2 ^ 8 * numL r), crcIter_shift]
theorem numL_lt : ∀ l : List UInt8, numL l < 2 ^ (8 * l.length)
  | [] => by simp [numL]
  | c :: r => by
    have h1 := numL_lt r
    have h2 := c.toNat_lt
    show c.toNat + 2 ^ 8 * numL r < 2 ^ (8 * (r.length + 1))
    rw [show 8 * (r.length + 1) = 8 + 8 * r.length by omega, Nat.pow_add]
    have h3 : 2 ^ 8 * (numL r + 1) ≤ 2 ^ 8 * 2 ^ (8 * r.length) := Nat.mul_le_mul_left _ h1
    omega
theorem numL_inj : ∀ (l r : List UInt8), l.length = r.length → numL l = numL r → l = r
  | [], [], _, _ => rfl
  | [], _ :: _, h, _ => by simp at h
  | _ :: _, [], h, _ => by simp at h
  | c :: l, d :: r, h, hn => by
    have h1 := c.toNat_lt
    have h2 := d.toNat_lt
    simp only [numL] at hn
    have h3 : c.toNat = d.toNat ∧ numL l = numL r := by omega
    rw [numL_inj l r (by simpa using h) h3.2, UInt8.toNat_inj.1 h3.1]
theorem numL_sum (n : Nat) (h : n < 4294967296) : numL (sumB n) = n := by
  simp [numL, sumB]
  omega
theorem not_sub {g : Nat} (h : g < 4294967296) : 4294967295 - g = 4294967295 ^^^ g := by
  have := not32 g h
  rw [show (4294967295 : Int) = ((4294967295 : Nat) : Int) from rfl, xor32 _ _ (by omega) h] at this
  omega
theorem crc_sealed (l : List UInt8) : crcGo 4294967295 (sealB l) = crcIter 32 4294967295 := by
  have h1 : crcGo 4294967295 (sealB l) = crcGo (crcGo 4294967295 l) (sumB (crcSum l)) := by simp [crcGo, sealB]
  have hg := crcGo_lt l (c := 4294967295) (by omega)
  rw [h1, crcGo_iter, numL_sum _ (crcSum_lt l)]
  show crcIter 32 _ = _
  rw [crcSum, not_sub hg, Nat.xor_comm 4294967295, ← Nat.xor_assoc, Nat.xor_self, Nat.zero_xor]
/-- A sealed text with bits turned is none. -/
theorem burst_none (x p : List UInt8) (first E : Nat) (hl : p.length = (sealB x).length) (h0 : 0 < E) (h1 : E < 4294967296) (hf : first ≤ 8 * p.length) (hn : numL p = numL (sealB x) ^^^ 2 ^ first * E) : unB p = none := by
  rcases hu : unB p with _ | y
  · rfl
  · exfalso
    have hy := (unB_some hu).1
    have e1 := crc_sealed y
    rw [hy, ← crc_sealed x, crcGo_iter, crcGo_iter, hn, hl, ← Nat.xor_assoc, crcIter_xor _ (2 ^ first * E)] at e1
    have e2 : crcIter (8 * (sealB x).length) (2 ^ first * E) = 0 := by
      have e3 : ∀ u v : Nat, u ^^^ v = u → v = 0 := fun u v h => by
        have : u ^^^ (u ^^^ v) = u ^^^ u := by rw [h]
        rwa [← Nat.xor_assoc, Nat.xor_self, Nat.zero_xor] at this
      exact e3 _ _ e1
    rw [show 8 * (sealB x).length = first + (8 * (sealB x).length - first) by omega, crcIter_add, crcIter_shift] at e2
    have := crcIter_pos h0 h1 (8 * (sealB x).length - first)
    omega
/-- a bit of bytes turned -/
theorem numL_turn : ∀ (l : List UInt8) (k : Nat) (c : UInt8), l[k / 8]? = some c → numL (l.set (k / 8) (c ^^^ UInt8.ofNat (2 ^ (k % 8)))) = numL l ^^^ 2 ^ k
  | [], k, c, h => by simp at h
  | d :: r, k, c, h => by
    by_cases hk : k < 8
    · have hk0 : k / 8 = 0 := by omega
      rw [hk0] at h ⊢
      simp only [List.getElem?_cons_zero, Option.some.injEq] at h
      subst h
      have hp : 2 ^ (k % 8) < 256 := by
        have : 2 ^ (k % 8) < 2 ^ 8 := Nat.pow_lt_pow_right (by decide) (by omega)
        exact this
      have ht : (d ^^^ UInt8.ofNat (2 ^ (k % 8))).toNat = d.toNat ^^^ 2 ^ k := by
        rw [UInt8.toNat_xor, UInt8.toNat_ofNat_of_lt' hp, show k % 8 = k by omega]
      show (d ^^^ UInt8.ofNat (2 ^ (k % 8))).toNat + 2 ^ 8 * numL r = (d.toNat + 2 ^ 8 * numL r) ^^^ 2 ^ k
      rw [low_high 8 _ _ (UInt8.toNat_lt _), low_high 8 _ _ d.toNat_lt, ht, Nat.xor_assoc, Nat.xor_comm (2 ^ k), Nat.xor_assoc]
    · have hk1 : k / 8 = (k - 8) / 8 + 1 := by omega
      rw [hk1] at h ⊢
      simp only [List.getElem?_cons_succ] at h
      have ih := numL_turn r (k - 8) c h
      rw [show (k - 8) % 8 = k % 8 by omega] at ih
      show d.toNat + 2 ^ 8 * numL (r.set ((k - 8) / 8) _) = (d.toNat + 2 ^ 8 * numL r) ^^^ 2 ^ k
      rw [ih, low_high 8 _ _ d.toNat_lt, low_high 8 _ _ d.toNat_lt, mul_xor, ← Nat.pow_add, show 8 + (k - 8) = k by omega, Nat.xor_assoc]
/-- one bit more of what is turned -/
theorem more_turned {E i first N : Nat} (h : E < 2 ^ i) : N ^^^ 2 ^ first * E ^^^ 2 ^ (first + i) = N ^^^ 2 ^ first * (E + 2 ^ i) := by
  have h1 := low_high i E 1 h
  rw [Nat.mul_one] at h1
  rw [h1, mul_xor, ← Nat.pow_add, Nat.xor_assoc]
end Go.Proofs.YtfppbkpdpapemaaDoor.Pl
