import Derived.Test.YtchbfeejpdfmhaaPlain
/-! Plain words: numbers as bytes, Configs, notes. No program in sight. -/
namespace Go.Proofs.Ytchbfeejpdfmhaa.Pl
/-- a number, as few bytes as there may be -/
def putB (n : Nat) : List UInt8 := if _h : n < 128 then [UInt8.ofNat n] else UInt8.ofNat (n % 128 + 128) :: putB (n / 128)
termination_by n
decreasing_by omega
theorem putB_small {n : Nat} (h : n < 128) : putB n = [UInt8.ofNat n] := by rw [putB, dif_pos h]
theorem putB_big {n : Nat} (h : ¬ n < 128) : putB n = UInt8.ofNat (n % 128 + 128) :: putB (n / 128) := by rw [putB, dif_neg h]
theorem ofNat_inj {a b : Nat} (ha : a < 256) (hb : b < 256) (h : UInt8.ofNat a = UInt8.ofNat b) : a = b := by
  have := congrArg UInt8.toNat h
  simp at this
  omega
theorem putB_inj : ∀ (n m : Nat) (r s : List UInt8), putB n ++ r = putB m ++ s → n = m ∧ r = s := by
  intro n
  induction n using Nat.strongRecOn with
  | _ n ih =>
    intro m r s h
    by_cases hn : n < 128 <;> by_cases hm : m < 128
    · rw [putB_small hn, putB_small hm] at h
      simp only [List.cons_append, List.nil_append, List.cons.injEq] at h
      exact ⟨ofNat_inj (by omega) (by omega) h.1, h.2⟩
    · rw [putB_small hn, putB_big hm] at h
      simp only [List.cons_append, List.nil_append, List.cons.injEq] at h
      have := ofNat_inj (by omega) (by omega) h.1
      omega
    · rw [putB_big hn, putB_small hm] at h
      simp only [List.cons_append, List.nil_append, List.cons.injEq] at h
      have := ofNat_inj (by omega) (by omega) h.1
      omega
    · rw [putB_big hn, putB_big hm] at h
      simp only [List.cons_append, List.cons.injEq] at h
      have h1 := ofNat_inj (by omega) (by omega) h.1
      obtain ⟨h2, h3⟩ := ih (n / 128) (by omega) (m / 128) r s h.2
      exact ⟨by omega, h3⟩
theorem putB_len : ∀ (k n : Nat), n < 128 ^ k → 1 ≤ k → (putB n).length ≤ k := by
  intro k
  induction k with
  | zero => intro n _ h; omega
  | succ k ih =>
    intro n h _
    by_cases hn : n < 128
    · rw [putB_small hn]; simp
    · rw [putB_big hn]
      rcases k with _ | k
      · simp at h; omega
      · have := ih (n / 128) (by rw [Nat.pow_succ] at h; omega) (by omega)
        simp only [List.length_cons]
        omega
theorem putB_len10 {n : Nat} (h : n < 18446744073709551616) : (putB n).length ≤ 10 := putB_len 10 n (by omega) (by omega)
/-- How a text is taken. -/
structure Cfg where
  fmt : UInt8
  num : Bool
  skip : Bool
  both : Bool
  loops : Bool
  back : Bool
  bud : Int
  fan : Int
  sha : Int
deriving DecidableEq
def within (n lo hi : Int) : Bool := decide (lo ≤ n) && decide (n ≤ hi)
def fmtOk (c : Cfg) : Bool := c.fmt == 1 || c.fmt == 2 || (c.fmt == 3 && c.num)
/-- may a text be taken so -/
def right (c : Cfg) : Bool := fmtOk c && within c.bud 2 4096 && within c.fan 2 (min 16 c.bud) && within c.sha 1 16
theorem right_bounds {c : Cfg} (h : right c = true) : 2 ≤ c.bud ∧ c.bud ≤ 4096 ∧ 2 ≤ c.fan ∧ c.fan ≤ 16 ∧ 1 ≤ c.sha ∧ c.sha ≤ 16 := by
  simp only [right, within, Bool.and_eq_true, decide_eq_true_eq] at h
  omega
def flag (b : Bool) (f : UInt8) : UInt8 := if b then f else 0
def flags (c : Cfg) : UInt8 := flag c.num 1 ||| flag c.skip 2 ||| flag c.both 4 ||| flag c.loops 8 ||| flag c.back 16
/-- the bytes of a Config -/
def confB (c : Cfg) : List UInt8 := [c.fmt, flags c] ++ putB c.bud.toNat ++ putB c.fan.toNat ++ putB c.sha.toNat
def noteB (c : Cfg) (n s : Nat) : List UInt8 := confB c ++ putB n ++ fixB 4 s
theorem flags_inj : ∀ a1 a2 a3 a4 a5 b1 b2 b3 b4 b5 : Bool, (flag a1 1 ||| flag a2 2 ||| flag a3 4 ||| flag a4 8 ||| flag a5 16) = (flag b1 1 ||| flag b2 2 ||| flag b3 4 ||| flag b4 8 ||| flag b5 16) → a1 = b1 ∧ a2 = b2 ∧ a3 = b3 ∧ a4 = b4 ∧ a5 = b5 := by decide
theorem fixB4_inj {s t : Nat} (hs : s < 4294967296) (ht : t < 4294967296) (h : fixB 4 s = fixB 4 t) : s = t := by
  simp only [fixB, byteAt, List.cons.injEq, and_true] at h
  obtain ⟨h3, h2, h1, h0⟩ := h
  have e3 := congrArg UInt8.toNat h3
  have e2 := congrArg UInt8.toNat h2
  have e1 := congrArg UInt8.toNat h1
  have e0 := congrArg UInt8.toNat h0
  simp at e3 e2 e1 e0
  omega
theorem noteB_inj {a b : Cfg} (ha : right a = true) (hb : right b = true) {n m s t : Nat} (hs : s < 4294967296) (ht : t < 4294967296) (h : noteB a n s = noteB b m t) : a = b ∧ n = m ∧ s = t := by
  have ba := right_bounds ha
  have bb := right_bounds hb
  obtain ⟨af, a1, a2, a3, a4, a5, ab, an, as_⟩ := a
  obtain ⟨bf, b1, b2, b3, b4, b5, bb', bn, bs⟩ := b
  simp only [noteB, confB, flags, List.append_assoc, List.cons_append, List.nil_append, List.cons.injEq] at h ba bb
  obtain ⟨h0, h1, h2⟩ := h
  obtain ⟨e1, h3⟩ := putB_inj _ _ _ _ h2
  obtain ⟨e2, h4⟩ := putB_inj _ _ _ _ h3
  obtain ⟨e3, h5⟩ := putB_inj _ _ _ _ h4
  obtain ⟨e4, h6⟩ := putB_inj _ _ _ _ h5
  have e5 := fixB4_inj hs ht h6
  obtain ⟨f1, f2, f3, f4, f5⟩ := flags_inj _ _ _ _ _ _ _ _ _ _ h1
  obtain rfl : ab = bb' := by omega
  obtain rfl : an = bn := by omega
  obtain rfl : as_ = bs := by omega
  subst h0 f1 f2 f3 f4 f5
  exact ⟨rfl, e4, e5⟩
/-- a digit's name -/
def digs (n : Nat) : List UInt8 := if n < 10 then [UInt8.ofNat (48 + n)] else [UInt8.ofNat (48 + n / 10), UInt8.ofNat (48 + n % 10)]
/-- the names of the files of a Config that is right -/
def namesOf (c : Cfg) : List (List UInt8) :=
  [[108, 97, 98, 101, 108, 115]] ++ (List.range c.sha.toNat).map (fun i => [115, 46] ++ digs i) ++ (if c.back then (List.range c.sha.toNat).map (fun i => [116, 46] ++ digs i) else [])
def names (c : Cfg) : List (List UInt8) := if right c then namesOf c else []
theorem names_right {c : Cfg} (h : right c = true) : names c = namesOf c := by simp [names, h]
theorem names_wrong {c : Cfg} (h : right c = false) : names c = [] := by simp [names, h]
end Go.Proofs.Ytchbfeejpdfmhaa.Pl
