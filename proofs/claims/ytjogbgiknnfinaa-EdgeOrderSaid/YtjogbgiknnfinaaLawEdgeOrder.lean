import Derived.Test.YtjogbgiknnfinaaPlain3
import Derived.Test.YtjogbgiknnfinaaLaw8
/-! creellaw08.digits; the law EdgeOrder, walked. -/
set_option linter.unusedSimpArgs false
set_option linter.unusedVariables false
namespace Go.Proofs.Ytjogbgiknnfinaa
open Go.RowKit Go.Proofs.YtjogbgiknnfinaaW.PrintWords Go.Proofs.YtjogbgiknnfinaaW.PrintLast Go.Proofs.YtjogbgiknnfinaaW.PrintMore

theorem digits_any (n : Nat) : ∀ (w : World), n < 4294967296 → Calls Try.prog 18 #[.int .u32 (n : Int)] w fun e w' => ∃ v', e = .returned v' ∧ Own kb 5 w' w.heap.size v' (Pl.dec n) ∧ Below w.heap.size w w' := by
  induction n using Nat.strongRecOn with
  | _ n ih =>
    intro w hn
    have hm : (n : Int) ≤ 4294967295 := by omega
    have HN := Lib.hid hn
    clear hn
    by_cases h : n < 10
    · have e1 : (((UInt8.ofNat (48 + n)).toNat : Nat) : Int) = 48 + (n : Int) := by simp; omega
      have HL := lit_own w w.heap.size [UInt8.ofNat (48 + n)] [.int .u8 (48 + (n : Int))] (by rw [List.map_cons, e1]; rfl) (Nat.le_refl _) (by simp)
      have HLH := Lib.hid HL
      have HD := Lib.hid (Pl.dec_small h)
      clear ih HL e1
      go_enter Try.func18, Try.ntmps18
      go_wp2_with fail
      go_ret
      rw [HD.out]
      exact ⟨_, rfl, HLH.out, below_alloc (Below.refl _ _) _⟩
    · have hih := ih (n / 10) (by omega) w (by have := HN.out; omega)
      have HI := Lib.hid hih
      have e1 : (((UInt8.ofNat (48 + n % 10)).toNat : Nat) : Int) = 48 + (n : Int) % 10 := by simp; omega
      have HE := Lib.hid e1
      have HD := Lib.hid (Pl.dec_big h)
      have hlen := (Pl.dec_all (n / 10)).2.2.2 10 (by omega) (by have := HN.out; omega)
      clear ih e1 hih
      go_enter Try.func18, Try.ntmps18
      go_wp2_with (first | (go_at_call 18; refine HI.out.mono ?_; rintro e w1 ⟨v1, rfl, ho1, hb1⟩; have HO1 := Lib.hid ho1; have HB1 := Lib.hid hb1; clear ho1 hb1) | ((with_reducible refine gate_builtin (b := .append) (xs := #[.tmp 11, .tmp 16]) rfl ?_); at_builtin; refine app1 (w0 := w) w.heap.size rfl (.tmp 11) (.tmp 16) rfl v1 (Pl.dec (n / 10)) (UInt8.ofNat (48 + n % 10)) _ HE.out.symm rfl rfl HO1.out HB1.out HB1.out.size (by omega) ?_; intro v5 w5 ho5 hb5 hg5 hat5))
      go_ret
      rw [HD.out]
      exact ⟨_, rfl, ho5, hb5⟩

set_option maxRecDepth 100000 in
set_option maxHeartbeats 1000000 in
theorem edgeOrder_walk (a b : Int) (w : World) (ha0 : 0 ≤ a) (ha1 : a ≤ 4294967295) (hb0 : 0 ≤ b) (hb1 : b ≤ 4294967295) :
    Calls Try.prog 4 #[.int .u32 a, .int .u32 b] w fun e w' => e = .returned (.bool true) ∧ Below w.heap.size w w' := by
  obtain ⟨n, rfl⟩ := Int.eq_ofNat_of_zero_le ha0
  obtain ⟨m, rfl⟩ := Int.eq_ofNat_of_zero_le hb0
  have hn : n < 4294967296 := by omega
  have hm : m < 4294967296 := by omega
  have HN := Lib.hid hn
  have HM := Lib.hid hm
  clear ha0 ha1 hb0 hb1 hn hm
  go_enter Try.func4, Try.ntmps4
  go_wp2_with (go_at_call 13; refine (shown08_any _).mono ?_; rintro e w1 ⟨rfl, hb1⟩; have HB1 := Lib.hid hb1; clear hb1)
  refine (digits_any n _ HN.out).mono ?_
  rintro e w2 ⟨v2, rfl, ho2, hb2⟩
  have HO2 := Lib.hid ho2
  have HB2 := Lib.hid (bthen HB1.out hb2)
  clear ho2 hb2
  go_wp2_with fail
  refine (label_any _ (Pl.dec n) true _ HO2.out.rd).mono ?_
  rw [Pl.dec_label HN.out]
  rintro e w3 ⟨v3, rfl, ho3, hb3⟩
  simp only [Option.isSome_some, Option.getD_some] at ho3 ⊢
  have hxl := Pl.fixB_len 4 n
  obtain ⟨xs, hxs⟩ : ∃ x, Pl.fixB 4 n = x := ⟨_, rfl⟩
  rw [hxs] at ho3 hxl
  have HX := Lib.hid hxs
  obtain ⟨A3, c3, hv3⟩ := Kd.N_slice ho3
  rw [hxl] at hv3
  subst hv3
  have HO3 := Lib.hid ho3
  have HB3 := Lib.hid (bthen HB2.out hb3)
  clear ho3 hb3 HO2 HB2 hxs hxl
  go_wp2_with fail
  refine (digits_any m _ HM.out).mono ?_
  rintro e w4 ⟨v4, rfl, ho4, hb4⟩
  have HO4 := Lib.hid ho4
  have HO3' := Lib.hid (HO3.out.below hb4)
  have HB4 := Lib.hid (bthen HB3.out hb4)
  clear ho4 hb4 HO3 HB3
  go_wp2_with fail
  refine (label_any _ (Pl.dec m) true _ HO4.out.rd).mono ?_
  rw [Pl.dec_label HM.out]
  rintro e w5 ⟨v5, rfl, ho5, hb5⟩
  simp only [Option.isSome_some, Option.getD_some] at ho5 ⊢
  have hyl := Pl.fixB_len 4 m
  obtain ⟨ys, hys⟩ : ∃ x, Pl.fixB 4 m = x := ⟨_, rfl⟩
  rw [hys] at ho5 hyl
  have HY := Lib.hid hys
  obtain ⟨A5, c5, hv5⟩ := Kd.N_slice ho5
  rw [hyl] at hv5
  subst hv5
  have HB5 := Lib.hid (bthen HB4.out hb5)
  have e1 := byte_string (HO3'.out.rd.below hb5)
  have e2 := byte_string ho5.rd
  clear ho5 hb5 HO3' HO4 HB4 hys hyl
  have hless : Op.bytesLess xs ys = decide (n < m) := by
    have h1 := HN.out
    have h2 := HM.out
    rw [← HX.out, ← HY.out, Pl.less_fix, Nat.mod_eq_of_lt (by omega), Nat.mod_eq_of_lt (by omega)]
  have heq := Lib.hid (show ((n : Int) == (m : Int)) = (xs == ys) by
    rw [← HX.out, ← HY.out, Bool.eq_iff_iff, beq_iff_eq, beq_iff_eq, Pl.fixB_inj HN.out HM.out]
    omega)
  go_wp2_with fail
  go_ret
  exact ⟨by rw [heq.out]; simp, HB5.out⟩
end Go.Proofs.Ytjogbgiknnfinaa
