import Derived.Test.YtfppbkpdpapemaaDoorBase
import Derived.Laws.BitsLemmas
/-! The sum of layer 2, and a sealed text (layer 3). No program in sight. -/
set_option linter.unusedSimpArgs false
set_option linter.unusedVariables false
namespace Go.Proofs.YtfppbkpdpapemaaDoor
namespace Pl
/-- one bit of the table's making -/
def crcStep (c : Nat) : Nat := if c % 2 = 1 then c / 2 ^^^ 2197175160 else c / 2
def crcIter : Nat → Nat → Nat
  | 0, c => c
  | k + 1, c => crcStep (crcIter k c)
/-- the table's entry -/
def crcEntry (i : Nat) : Nat := crcIter 8 i
/-- one byte more -/
def crcByte (c b : Nat) : Nat := crcEntry ((c ^^^ b) % 256) ^^^ c / 256
def crcGo (c : Nat) (l : List UInt8) : Nat := l.foldl (fun c b => crcByte c b.toNat) c
def crcSum (l : List UInt8) : Nat := 4294967295 - crcGo 4294967295 l
theorem crcStep_lt {c : Nat} (h : c < 4294967296) : crcStep c < 4294967296 := by
  unfold crcStep
  split
  · exact Nat.xor_lt_two_pow (n := 32) (by omega) (by omega)
  · omega
theorem crcIter_lt {c : Nat} (h : c < 4294967296) : ∀ k, crcIter k c < 4294967296
  | 0 => h
  | k + 1 => crcStep_lt (crcIter_lt h k)
theorem crcEntry_lt {c : Nat} (h : c < 4294967296) : crcEntry c < 4294967296 := crcIter_lt h 8
theorem crcByte_lt {c : Nat} (b : Nat) (h : c < 4294967296) : crcByte c b < 4294967296 := Nat.xor_lt_two_pow (n := 32) (crcEntry_lt (by omega)) (by omega)
theorem crcGo_lt (l : List UInt8) : ∀ {c : Nat}, c < 4294967296 → crcGo c l < 4294967296 := by
  induction l with
  | nil => intro c h; exact h
  | cons b l ih => intro c h; exact ih (crcByte_lt _ h)
theorem crcGo_snoc (c : Nat) (l : List UInt8) (b : UInt8) : crcGo c (l ++ [b]) = crcByte (crcGo c l) b.toNat := by simp [crcGo]
theorem crcSum_lt (l : List UInt8) : crcSum l < 4294967296 := by unfold crcSum; omega
/-- a sum's four bytes, the lowest first -/
def sumB (n : Nat) : List UInt8 := [UInt8.ofNat n, UInt8.ofNat (n / 256), UInt8.ofNat (n / 65536), UInt8.ofNat (n / 16777216)]
def sealB (l : List UInt8) : List UInt8 := l ++ sumB (crcSum l)
theorem sealB_len (l : List UInt8) : (sealB l).length = l.length + 4 := by simp [sealB, sumB]
end Pl

theorem bits32 (a b : Nat) (ha : a < 4294967296) (hb : b < 4294967296) : bits .and .u32 (a : Int) (b : Int) = ((a &&& b : Nat) : Int) ∧ bits .or .u32 (a : Int) (b : Int) = ((a ||| b : Nat) : Int) :=
  bits_nat .u32 32 (by decide) (fun n h0 h1 => by rw [IntKind.wrap_u32]; omega) a b (by omega) (by omega)
theorem xor_nat (k : IntKind) (a b : Nat) (ha : a < 2 ^ k.bits) (hb : b < 2 ^ k.bits) (hk : ∀ n : Int, 0 ≤ n → n < 2 ^ k.bits → k.wrap n = n) : bits .xor k (a : Int) (b : Int) = ((a ^^^ b : Nat) : Int) := by
  have ha' : a % 2 ^ k.bits = a := Nat.mod_eq_of_lt ha
  have hb' : b % 2 ^ k.bits = b := Nat.mod_eq_of_lt hb
  simp only [bits, BitVec.ofInt_natCast, BitVec.toNat_xor, BitVec.toNat_ofNat, ha', hb']
  exact hk _ (Int.natCast_nonneg _) (by exact_mod_cast Nat.xor_lt_two_pow ha hb)
theorem xor32 (a b : Nat) (ha : a < 4294967296) (hb : b < 4294967296) : bits .xor .u32 (a : Int) (b : Int) = ((a ^^^ b : Nat) : Int) :=
  xor_nat .u32 a b ha hb fun n h0 h1 => by rw [IntKind.wrap_u32]; have : n < 4294967296 := h1; omega
theorem xor8 (x y : Nat) (hy : y < 256) : bits .xor .u8 ((x : Int) % 256) (y : Int) = (((x ^^^ y) % 256 : Nat) : Int) := by
  rw [show (x : Int) % 256 = ((x % 256 : Nat) : Int) by omega, xor_nat .u8 (x % 256) y (show x % 256 < 2 ^ 8 by omega) (show y < 2 ^ 8 by omega) (fun n h0 h1 => by rw [IntKind.wrap_u8]; have : n < 256 := h1; omega)]
  rw [show (256 : Nat) = 2 ^ 8 from rfl, Nat.xor_mod_two_pow, Nat.mod_eq_of_lt (show y < 2 ^ 8 by omega)]
theorem not32 (x : Nat) (h : x < 4294967296) : bits .xor .u32 4294967295 (x : Int) = ((4294967295 - x : Nat) : Int) := by
  rw [show (4294967295 : Int) = ((4294967295 : Nat) : Int) from rfl, xor32 _ _ (by omega) h]
  congr 1
  rw [Nat.xor_comm]
  have : ∀ (a : BitVec 32), a.toNat ^^^ 4294967295 = 4294967295 - a.toNat := by
    intro a
    have h2 : (~~~ a).toNat = 4294967295 - a.toNat := by rw [BitVec.toNat_not]
    rw [← h2, show (4294967295 : Nat) = (BitVec.allOnes 32).toNat from rfl, ← BitVec.toNat_xor, BitVec.xor_allOnes]
  have := this (BitVec.ofNat 32 x)
  rwa [BitVec.toNat_ofNat, Nat.mod_eq_of_lt h] at this
/-- the table's step, as the code has it -/
theorem tab_step (c : Nat) (hc : c < 4294967296) : bits .xor .u32 ((c : Int) / 2) (bits .and .u32 2197175160 ((-(bits .and .u32 (c : Int) 1)) % 4294967296)) = ((Pl.crcStep c : Nat) : Int) := by
  have h1 := (bits32 c 1 hc (by omega)).1
  rw [show ((1 : Nat) : Int) = 1 from rfl] at h1
  rw [h1, Nat.and_one_is_mod]
  unfold Pl.crcStep
  by_cases h : c % 2 = 1
  · rw [if_pos h, h]
    rw [show (-((1 : Nat) : Int)) % 4294967296 = ((4294967295 : Nat) : Int) by decide, show (2197175160 : Int) = ((2197175160 : Nat) : Int) from rfl, (bits32 2197175160 4294967295 (by omega) (by omega)).1, show (2197175160 &&& 4294967295 : Nat) = 2197175160 by decide, show (c : Int) / 2 = ((c / 2 : Nat) : Int) by omega, xor32 _ _ (by omega) (by omega)]
  · rw [if_neg h, show c % 2 = 0 by omega]
    rw [show (-((0 : Nat) : Int)) % 4294967296 = ((0 : Nat) : Int) by decide, show (2197175160 : Int) = ((2197175160 : Nat) : Int) from rfl, (bits32 2197175160 0 (by omega) (by omega)).1, show (c : Int) / 2 = ((c / 2 : Nat) : Int) by omega, xor32 _ _ (by omega) (by simp), Nat.and_zero, Nat.xor_zero]
/-- .. and as the reference has it -/
theorem ref_step (c : Nat) (hc : c < 4294967296) (h : c % 2 = 1) : bits .xor .u32 ((c : Int) / 2) 2197175160 = ((Pl.crcStep c : Nat) : Int) := by
  unfold Pl.crcStep
  rw [if_pos h, show (2197175160 : Int) = ((2197175160 : Nat) : Int) from rfl, show (c : Int) / 2 = ((c / 2 : Nat) : Int) by omega, xor32 _ _ (by omega) (by omega)]
end Go.Proofs.YtfppbkpdpapemaaDoor
