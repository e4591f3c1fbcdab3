import Derived.Test.YtjdcejbblcbjpaaDoorWords
/-! line.Bare, creelref07.Bare. -/
set_option linter.unusedSimpArgs false
set_option linter.unusedVariables false
namespace Go.Proofs.YtjdcejbblcbjpaaDoor
open Go.RowKit Go.Proofs.YtjdcejbblcbjpaaDoorW.PrintWords Go.Proofs.YtjdcejbblcbjpaaDoorW.PrintLast Go.Proofs.YtjdcejbblcbjpaaDoorW.PrintMore

/-- Does a line say nothing? -/
def Pl.bareOf : Option UInt8 → Bool
  | none => true
  | some c => c == 35
def Pl.bare (bs : List UInt8) : Bool := Pl.bareOf (bs.dropWhile Pl.isBl).head?
theorem Pl.words_first (n : Nat) : ∀ (off : Nat) (l : List UInt8), l.length ≤ n → (Pl.wordsFrom off l = [] ∧ (l.dropWhile Pl.isBl).head? = none) ∨ ∃ k c t r, Pl.wordsFrom off l = (k, c :: t) :: r ∧ (l.dropWhile Pl.isBl).head? = some c := by
  induction n with
  | zero =>
    intro off l hl
    obtain rfl : l = [] := List.length_eq_zero_iff.1 (by omega)
    exact .inl ⟨Pl.wordsFrom_nil off, rfl⟩
  | succ n ih =>
    intro off l hl
    cases l with
    | nil => exact .inl ⟨Pl.wordsFrom_nil off, rfl⟩
    | cons c r =>
      rw [Pl.wordsFrom, dif_neg (by simp)]
      by_cases hc : Pl.isBl c = true
      · have e : Pl.tok (c :: r) = [] := by simp [Pl.tok, hc]
        rw [e]
        simp only [if_true, List.length_nil, List.nil_append, Nat.zero_add, Nat.add_zero, List.drop_succ_cons, List.drop_zero, List.dropWhile_cons, hc]
        exact ih _ r (by simp at hl; omega)
      · have e : Pl.tok (c :: r) = c :: Pl.tok r := by simp [Pl.tok, hc]
        rw [e]
        refine .inr ⟨off, c, Pl.tok r, _, by rw [if_neg (by simp)]; rfl, by simp [List.dropWhile_cons, hc]⟩
theorem Pl.words_bare (at_ : Int) (l : List UInt8) : (Pl.words at_ l = [] ∧ Pl.bare l = true) ∨ ∃ k c t r, Pl.words at_ l = (k, c :: t) :: r ∧ Pl.bare l = (c == 35) := by
  rcases Pl.words_first l.length 0 l (Nat.le_refl _) with ⟨h1, h2⟩ | ⟨k, c, t, r, h1, h2⟩
  · exact .inl ⟨by simp [Pl.words, h1], by simp [Pl.bare, h2, Pl.bareOf]⟩
  · exact .inr ⟨at_ + (k : Int), c, t, r.map (fun p => (at_ + (p.1 : Int), p.2)), by simp only [Pl.words, h1, List.map_cons], by simp [Pl.bare, h2, Pl.bareOf]⟩

set_option maxRecDepth 100000 in
set_option maxHeartbeats 2000000 in
theorem bare_any (v : Value) (at_ : Int) (bs : List UInt8) (w : World) (hv : Rd kb w v bs) (ha : 0 ≤ at_) (hb : at_ ≤ 4611686018427387904) (hl : bs.length ≤ 1099511627776) :
    Calls Tryd.prog 12 #[.agg #[.int .i64 at_, v]] w fun e w' => e = .returned (.bool (Pl.bare bs)) ∧ Below w.heap.size w w' := by
  obtain ⟨A, c, hvA⟩ := Kd.V_slice hv
  subst hvA
  have HV := Lib.hid hv
  clear hv
  go_enter Tryd.func12, Tryd.ntmps12
  go_wp2_with fail
  have hb1 := below_alloc (Below.refl w.heap.size w) (.cells #[.int .i64 at_, .slice A bs.length c] 33)
  refine (words_any _ at_ bs _ (Rd.below HV.out hb1) ha hb hl).mono ?_
  rintro e w2 ⟨v2, rfl, ho2, hb2⟩
  have HB := Lib.hid (bthen hb1 hb2)
  clear hb1 hb2 HV
  rcases Pl.words_bare at_ bs with ⟨h1, h2⟩ | ⟨k, d, t, r, h1, h2⟩
  · rw [h1] at ho2
    have H2 := Lib.hid h2
    obtain ⟨A2, c2, hv2⟩ := Kd.N_slice ho2
    subst hv2
    clear ho2 h1 h2
    simp only [List.length_nil]
    go_wp2_with fail
    go_ret
    exact ⟨by rw [H2.out]; rfl, HB.out⟩
  · rw [h1] at ho2
    have H2 := Lib.hid h2
    obtain ⟨g, cap, hv2, hg, hrow⟩ := line_own ho2 (by simp)
    subst hv2
    obtain ⟨A2, c2, hV, x0, x1⟩ := hrow 0 _ rfl
    obtain ⟨A3, c3, hv3, hc3, hF⟩ := hV
    injection hv3 with e1 _ e2
    subst e1 e2
    obtain ⟨a3, ha3, hcell⟩ := kb_cell hF 0 (by simp)
    have hl3 : (0 : Int) ≤ (t.length : Int) := by omega
    have hl4 : (0 : Int) < (r.length : Int) + 1 := by omega
    have hl5 : (0 : Int) < (t.length : Int) + 1 := by omega
    have hne : (((r.length : Int) + 1) == 0) = false := beq_false_of_ne (by omega)
    subst ha3
    have e0 : a3.add 0 = a3 := by cases a3; rfl
    rw [e0] at hcell
    simp only [Nat.zero_mul, Nat.zero_add] at x0 x1
    have he : ((d.toNat : Int) == 35) = (d == 35) := u8_beq d 35
    simp only [List.getElem_cons_zero, List.getD_cons_zero] at hcell
    clear hF hrow ho2 h1 h2
    simp only [List.length_cons]
    go_wp2_with fail
    go_ret
    exact ⟨by rw [H2.out, ← he]; rfl, HB.out⟩

end Go.Proofs.YtjdcejbblcbjpaaDoor
