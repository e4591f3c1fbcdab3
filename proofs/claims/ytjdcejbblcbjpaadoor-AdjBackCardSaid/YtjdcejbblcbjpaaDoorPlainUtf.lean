import Derived.Lib.DecodeN
import Derived.Laws.Runes
import Derived.Test.YtjdcejbblcbjpaaDoorBase
/-! What a rune read from bytes is. No program in sight. -/
set_option linter.unusedSimpArgs false
set_option linter.unusedVariables false
namespace Go.Proofs.YtjdcejbblcbjpaaDoor.Pl
open Go.Lib
set_option maxRecDepth 100000 in
set_option maxHeartbeats 2000000 in
/-- Behind a byte beyond ASCII: how wide it is, that all its bytes are beyond ASCII, and what number it is. -/
theorem decN_facts (n b0 b1 b2 b3 : Nat) (h : 128 ≤ b0) (hn : 0 < n) : 1 ≤ (decodeN n b0 b1 b2 b3).2 ∧ (decodeN n b0 b1 b2 b3).2 ≤ n ∧ (decodeN n b0 b1 b2 b3).2 ≤ 4 ∧ 128 ≤ (decodeN n b0 b1 b2 b3).1 ∧ (decodeN n b0 b1 b2 b3).1 ≤ 1114111
    ∧ (2 ≤ (decodeN n b0 b1 b2 b3).2 → 128 ≤ b1) ∧ (3 ≤ (decodeN n b0 b1 b2 b3).2 → 128 ≤ b2) ∧ (4 ≤ (decodeN n b0 b1 b2 b3).2 → 128 ≤ b3)
    ∧ ((decodeN n b0 b1 b2 b3).1 ≠ 65533 → 2 ≤ (decodeN n b0 b1 b2 b3).2 ∧ ((decodeN n b0 b1 b2 b3).1 < 55296 ∨ 57344 ≤ (decodeN n b0 b1 b2 b3).1) ∧ ((decodeN n b0 b1 b2 b3).2 = 2 ↔ (decodeN n b0 b1 b2 b3).1 < 2048) ∧ ((decodeN n b0 b1 b2 b3).2 = 4 ↔ 65536 ≤ (decodeN n b0 b1 b2 b3).1)) := by
  have hb0 : ¬ b0 < 128 := by omega
  unfold decodeN
  rw [if_neg hb0]
  split
  · split
    · rename_i h1 h2
      refine ⟨by simp, by show 2 ≤ n; omega, by simp, h2, ?_, fun _ => by omega, fun h3 => by simp at h3, fun h3 => by simp at h3, fun _ => ⟨by simp, ?_, ?_, ?_⟩⟩
      · show _ ≤ 1114111; omega
      · left; show _ < 55296; omega
      · show 2 = 2 ↔ _ < 2048; omega
      · show 2 = 4 ↔ 65536 ≤ _; omega
    · simp; omega
  · split
    · split
      · rename_i h0 h1 h2
        refine ⟨by simp, by show 3 ≤ n; omega, by simp, ?_, ?_, fun _ => by omega, fun h3 => by omega, fun h3 => by simp at h3, fun _ => ⟨by simp, ?_, ?_, ?_⟩⟩
        · show 128 ≤ _; omega
        · show _ ≤ 1114111; omega
        · show _ < 55296 ∨ 57344 ≤ _; omega
        · show 3 = 2 ↔ _ < 2048; omega
        · show 3 = 4 ↔ 65536 ≤ _; omega
      · simp; omega
    · split
      · split
        · rename_i h0 h00 h1 h2
          refine ⟨by simp, by show 4 ≤ n; omega, by simp, ?_, ?_, fun _ => by omega, fun h3 => by omega, fun h3 => by omega, fun _ => ⟨by simp, ?_, ?_, ?_⟩⟩
          · show 128 ≤ _; omega
          · show _ ≤ 1114111; omega
          · show _ < 55296 ∨ 57344 ≤ _; omega
          · show 4 = 2 ↔ _ < 2048; omega
          · show 4 = 4 ↔ 65536 ≤ _; omega
        · simp; omega
      · simp; omega
theorem enc_size (r : Nat) (h : 128 ≤ r) (h1 : r ≤ 1114111) (hv : r < 55296 ∨ 57344 ≤ r) : (Utf8.encode (r : Int)).size = (if r < 2048 then 2 else if r < 65536 then 3 else 4) ∧ Utf8.valid (r : Int) = true := by
  have hval : Utf8.valid (r : Int) = true := by
    simp only [Utf8.valid, Bool.or_eq_true, Bool.and_eq_true, decide_eq_true_eq]
    omega
  refine ⟨?_, hval⟩
  unfold Utf8.encode
  simp only [hval, if_true, Int.toNat_natCast]
  rw [if_neg (by omega)]
  split
  · rfl
  · split <;> rfl
/-- .. of a string's rune: its width is its text's length. -/
theorem enc_dec (n b0 b1 b2 b3 : Nat) (h : 128 ≤ b0) (hn : 0 < n) (hne : (decodeN n b0 b1 b2 b3).1 ≠ 65533) : (Utf8.encode ((decodeN n b0 b1 b2 b3).1 : Int)).size = (decodeN n b0 b1 b2 b3).2 ∧ Utf8.valid ((decodeN n b0 b1 b2 b3).1 : Int) = true := by
  obtain ⟨w1, w2, w4, r1, r2, _, _, _, hx⟩ := decN_facts n b0 b1 b2 b3 h hn
  obtain ⟨x1, x2, x3, x4⟩ := hx hne
  obtain ⟨e1, e2⟩ := enc_size (decodeN n b0 b1 b2 b3).1 r1 r2 x2
  refine ⟨?_, e2⟩
  rw [e1]
  split
  · exact (x3.2 (by assumption)).symm
  · split
    · rename_i a b
      have : ¬ (decodeN n b0 b1 b2 b3).2 = 2 := fun hh => a (x3.1 hh)
      have : ¬ (decodeN n b0 b1 b2 b3).2 = 4 := fun hh => by have := x4.1 hh; omega
      omega
    · rename_i a b
      exact (x4.2 (by omega)).symm
end Go.Proofs.YtjdcejbblcbjpaaDoor.Pl
