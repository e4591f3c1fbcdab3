import Derived.Test.YtjdcejbblcbjpaaDoorIndexAny3
import Derived.Test.YtjdcejbblcbjpaaDoorBytesK
/-! adj.word, creelref09.plain. -/
set_option linter.unusedSimpArgs false
set_option linter.unusedVariables false
namespace Go.Proofs.YtjdcejbblcbjpaaDoor
open Go.RowKit Go.Proofs.YtjdcejbblcbjpaaDoorW.PrintWords Go.Proofs.YtjdcejbblcbjpaaDoorW.PrintLast Go.Proofs.YtjdcejbblcbjpaaDoorW.PrintMore

/-- the word that a label is, if it may be one -/
def Pl.aword (l : List UInt8) (num : Bool) : Option (List UInt8) := (Pl.text l num).bind fun b => if b.any Pl.bl then none else some b
theorem Pl.text_size {l b : List UInt8} {num : Bool} (h : Pl.text l num = some b) : 1 ≤ b.length ∧ b.length ≤ 32 := by
  rcases num with _ | _
  · rw [Pl.text_word] at h
    by_cases h1 : 1 ≤ l.length ∧ l.length ≤ 32
    · rw [Pl.label_some h1] at h
      injection h with h
      subst h
      exact h1
    · rw [Pl.label_none h1] at h
      cases h
  · by_cases h4 : l.length = 4
    · rw [Pl.text_num h4] at h
      injection h with h
      subst h
      have h5 := Pl.unfixB_lt l
      rw [h4] at h5
      have h6 := Pl.dec_all (Pl.unfixB l)
      have h7 := h6.2.2.2 10 (by omega) (by omega)
      exact ⟨h6.2.2.1, by omega⟩
    · rw [Pl.text_none h4] at h
      cases h
theorem Pl.aword_none {l : List UInt8} {num : Bool} (h : Pl.text l num = none) : Pl.aword l num = none := by rw [Pl.aword, h]; rfl
theorem Pl.aword_blank {l b : List UInt8} {num : Bool} (h : Pl.text l num = some b) (h1 : b.any Pl.bl = true) : Pl.aword l num = none := by rw [Pl.aword, h]; exact if_pos h1
theorem Pl.aword_some {l b : List UInt8} {num : Bool} (h : Pl.text l num = some b) (h1 : b.any Pl.bl = false) : Pl.aword l num = some b := by rw [Pl.aword, h]; exact if_neg (by rw [h1]; decide)
theorem Pl.aword_size {l b : List UInt8} {num : Bool} (h : Pl.aword l num = some b) : 1 ≤ b.length ∧ b.length ≤ 32 := by
  rcases ht : Pl.text l num with _ | t
  · rw [Pl.aword_none ht] at h; cases h
  · rcases hb : t.any Pl.bl with _ | _
    · rw [Pl.aword_some ht hb] at h
      injection h with h
      subst h
      exact Pl.text_size ht
    · rw [Pl.aword_blank ht hb] at h; cases h

set_option maxRecDepth 100000 in
set_option maxHeartbeats 4000000 in
theorem aword_any (v : Value) (l : List UInt8) (num : Bool) (w : World) (hv : Rd kb w v l) (hl : l.length ≤ 140737488355328) (ht : Tab3 w) : Calls Tryd.prog 14 #[v, .bool num] w (OptSaid (Pl.aword l num) w) := by
  have HU := Lib.hid (text_all v l num w hv hl ht.t)
  have HT := Lib.hid ht
  clear hv ht
  rcases hx : Pl.text l num with _ | b
  · have HE := Lib.hid (Pl.aword_none hx)
    rw [hx] at HU
    clear hx
    go_enter Tryd.func14, Tryd.ntmps14
    go_wp2_with (go_at_call 25; refine HU.out.mono ?_; rintro e w1 ⟨v1, rfl, ho, hb⟩; have HB := Lib.hid hb; obtain ⟨A, c, hv1⟩ := Kd.N_slice ho; subst hv1; clear ho hb; simp only [Option.isSome_none, Option.getD_none, List.length_nil])
    go_ret2
    rw [OptSaid, HE.out]
    exact ⟨_, rfl, Own.nil _ _ _ _, HB.out⟩
  · have hsz := Pl.text_size hx
    rw [hx] at HU
    rcases hbl : b.any Pl.bl with _ | _
    · have HE := Lib.hid (Pl.aword_some hx hbl)
      have HBL := Lib.hid hbl
      clear hx hbl
      go_enter Tryd.func14, Tryd.ntmps14
      go_wp2_with (first | (go_at_call 25; refine HU.out.mono ?_; rintro e w1 ⟨v1, rfl, ho, hb⟩; have HB := Lib.hid hb; have HO := Lib.hid ho; obtain ⟨A, c, hv1⟩ := Kd.N_slice ho; subst hv1; clear ho hb; simp only [Option.isSome_some, Option.getD_some] at HO ⊢) | (go_at_call 26; refine (containsany_any _ b _ HO.out.rd (HT.out.below HB.out) (by omega) (by omega)).mono ?_; rintro e w2 ⟨rfl, hb2⟩; rw [HBL.out]))
      go_wp2_with fail
      go_ret2
      rw [OptSaid, HE.out]
      exact ⟨_, rfl, HO.out.below hb2, bthen HB.out hb2⟩
    · have HE := Lib.hid (Pl.aword_blank hx hbl)
      have HBL := Lib.hid hbl
      clear hx hbl
      go_enter Tryd.func14, Tryd.ntmps14
      go_wp2_with (first | (go_at_call 25; refine HU.out.mono ?_; rintro e w1 ⟨v1, rfl, ho, hb⟩; have HB := Lib.hid hb; have HO := Lib.hid ho; obtain ⟨A, c, hv1⟩ := Kd.N_slice ho; subst hv1; clear ho hb; simp only [Option.isSome_some, Option.getD_some] at HO ⊢) | (go_at_call 26; refine (containsany_any _ b _ HO.out.rd (HT.out.below HB.out) (by omega) (by omega)).mono ?_; rintro e w2 ⟨rfl, hb2⟩; rw [HBL.out]))
      go_wp2_with fail
      go_ret2
      rw [OptSaid, HE.out]
      exact ⟨_, rfl, Own.nil _ _ _ _, bthen HB.out hb2⟩

theorem bl_nat (c : UInt8) : Pl.bl c = true ↔ (c.toNat = 32 ∨ c.toNat = 9 ∨ c.toNat = 13 ∨ c.toNat = 10) := by
  have e : ∀ d : UInt8, (c == d) = true ↔ c.toNat = d.toNat := fun d => by rw [beq_iff_eq, UInt8.toNat_inj]
  simp only [Pl.bl, Bool.or_eq_true, e]
  constructor <;> intro h <;> simpa [or_assoc] using h

set_option maxRecDepth 100000 in
set_option maxHeartbeats 4000000 in
theorem rplain_any (v : Value) (l : List UInt8) (num : Bool) (w : World) (hv : Rd kb w v l) (hl : l.length ≤ 140737488355328) (ht : Tabs w) : Calls Tryd.prog 16 #[v, .bool num] w (OptSaid (Pl.aword l num) w) := by
  have HU := Lib.hid (rtext_all v l num w hv hl ht)
  clear hv ht
  rcases hx : Pl.text l num with _ | b
  · have HE := Lib.hid (Pl.aword_none hx)
    rw [hx] at HU
    clear hx
    go_enter Tryd.func16, Tryd.ntmps16
    go_wp2_with (go_at_call 28; refine HU.out.mono ?_; rintro e w1 ⟨v1, rfl, ho, hb⟩; have HB := Lib.hid hb; obtain ⟨A, c, hv1⟩ := Kd.N_slice ho; subst hv1; have HO := Lib.hid ho; clear ho hb; simp only [Option.isSome_none, Option.getD_none, List.length_nil] at HO ⊢)
    go_loop [8] (fun i => i = .int .i64 0) (fun _ => 0)
    case atStart => rfl
    case round =>
      subst hrel
      go_wp2_with fail
      go_ret2
      rw [OptSaid, HE.out]
      exact ⟨_, rfl, HO.out, HB.out⟩
  · have hsz := Pl.text_size hx
    rw [hx] at HU
    obtain ⟨n, hn⟩ : ∃ n, b.length = n := ⟨_, rfl⟩
    have HN := Lib.hid hn
    have HX := Lib.hid hx
    rw [hn] at hsz
    clear hn hx
    go_enter Tryd.func16, Tryd.ntmps16
    go_wp2_with (go_at_call 28; refine HU.out.mono ?_; rintro e w1 ⟨v1, rfl, ho, hb⟩; have HB := Lib.hid hb; have HO := Lib.hid ho; obtain ⟨ab, ao, cp, hv1, hcp, hcell⟩ := rd_plain ho.rd (by simp only [Option.getD_some]; rw [HN.out]; omega); subst hv1; have HC := Lib.hid hcell; clear ho hb hcell; simp only [Option.isSome_some, Option.getD_some] at HO HC hcp ⊢; rw [HN.out] at HO hcp ⊢)
    go_loop [8] (fun i => ∃ k : Nat, i = .int .i64 (k : Int) ∧ Aside0 (k ≤ n) ∧ Aside0 ((b.take k).any Pl.bl = false)) (fun i => n - (intOf i).toNat)
    case atStart => exact ⟨0, rfl, ⟨by omega⟩, ⟨by simp⟩⟩
    case round =>
      obtain ⟨k, rfl, hk, hno⟩ := hrel
      by_cases hlt : k < n
      · have q0 : (0 : Int) ≤ (k : Int) := by omega
        have q1 : (k : Int) < (n : Int) := by omega
        have hkl : k < b.length := by rw [HN.out]; exact hlt
        obtain ⟨c, hx⟩ : ∃ c, b.getD k 0 = c := ⟨_, rfl⟩
        have hc1 := HC.out k hkl
        rw [hx] at hc1
        obtain ⟨y, hy⟩ : ∃ y, c.toNat = y := ⟨_, rfl⟩
        rw [hy] at hc1
        have HX2 := Lib.hid (⟨hx, hy⟩ : b.getD k 0 = c ∧ c.toNat = y)
        have HKL := Lib.hid hkl
        have hw1 : IntKind.i64.wrap ((k : Int) + 1) = (k : Int) + 1 := IntWalk.i64_in _ (by omega)
        clear hx hy hkl
        by_cases h4 : y = 32 ∨ y = 9 ∨ y = 13 ∨ y = 10
        · have HE := Lib.hid (Pl.aword_blank HX.out (any_hit HKL.out (by rw [HX2.out.1, bl_nat, HX2.out.2]; exact h4)))
          rcases h4 with rfl | rfl | rfl | rfl
          all_goals go_wp2_with fail
          all_goals go_ret2
          all_goals rw [OptSaid, HE.out]
          all_goals exact ⟨_, rfl, Own.nil _ _ _ _, HB.out⟩
        · have e1 : ((y : Int) == 32) = false := by rw [beq_eq_false_iff_ne]; omega
          have e2 : ((y : Int) == 9) = false := by rw [beq_eq_false_iff_ne]; omega
          have e3 : ((y : Int) == 13) = false := by rw [beq_eq_false_iff_ne]; omega
          have e4 : ((y : Int) == 10) = false := by rw [beq_eq_false_iff_ne]; omega
          have HNB := Lib.hid (any_take HKL.out hno.out (by rw [HX2.out.1]; rcases hb : Pl.bl c with _ | _; rfl; exact absurd ((bl_nat c).1 hb) (by rw [HX2.out.2]; exact h4)))
          clear h4
          go_wp2_with fail
          go_round
          case rel => exact ⟨k + 1, by go_num, ⟨by omega⟩, ⟨HNB.out⟩⟩
          case measure => simp [intOf]; omega
      · obtain rfl : k = n := by have := hk.out; omega
        have HE := Lib.hid (Pl.aword_some HX.out (by have := hno.out; rwa [List.take_of_length_le (by rw [HN.out]; exact Nat.le_refl _)] at this))
        go_wp2_with fail
        go_ret2
        rw [OptSaid, HE.out]
        exact ⟨_, rfl, HO.out, HB.out⟩
end Go.Proofs.YtjdcejbblcbjpaaDoor
