import Derived.Test.YtjogbgiknnfinaaDoorText8
import Derived.Test.YtjogbgiknnfinaaDoorLaw8
/-! The law EdgeLabels, walked. -/
set_option linter.unusedSimpArgs false
set_option linter.unusedVariables false
namespace Go.Proofs.YtjogbgiknnfinaaDoor
open Go.RowKit Go.Proofs.YtjogbgiknnfinaaDoorW.PrintWords Go.Proofs.YtjogbgiknnfinaaDoorW.PrintLast Go.Proofs.YtjogbgiknnfinaaDoorW.PrintMore

set_option maxRecDepth 100000 in
set_option maxHeartbeats 4000000 in
theorem edgeLabels_walk (v : Value) (b : List UInt8) (num : Bool) (w : World) (hv : Rd kb w v b) (htab : Tabs w) :
    Calls Tryd.prog 3 #[v, .bool num] w fun e w' => e = .returned (.bool true) ∧ Below w.heap.size w w' := by
  have HR := Lib.hid hv
  obtain ⟨A0, c0, rfl, hc0, _⟩ := hv
  have HT := Lib.hid htab
  clear htab
  go_enter Tryd.func3, Tryd.ntmps3
  obtain ⟨l, hll⟩ : ∃ l, b.take 200 = l := ⟨_, rfl⟩
  have hl2 : l.length ≤ 200 := by rw [← hll]; simp; omega
  have HLL := Lib.hid hll
  clear hll
  go_wp2_with (go_at_call 7; refine (few08_any _ _ _ HR.out).mono ?_; rintro e w1 ⟨v2, rfl, hr2, rfl⟩; rw [HLL.out] at hr2; have HR2 := Lib.hid hr2; clear hr2)
  refine (label_any _ l num _ HR2.out).mono ?_
  rintro e w2 ⟨v3, rfl, ho3, hb3⟩
  have HO3 := Lib.hid ho3
  have HB3 := Lib.hid hb3
  have HRa := Lib.hid (Rd.below HR.out hb3)
  clear ho3 hb3 HR2
  go_wp2_with fail
  refine (few08_any _ _ _ HRa.out).mono ?_
  rintro e w4 ⟨v4, rfl, hr4, rfl⟩
  rw [HLL.out] at hr4
  have HR4 := Lib.hid hr4
  clear hr4
  go_wp2_with fail
  refine (rlabel_any _ l num _ HR4.out).mono ?_
  rintro e w5 ⟨v5, rfl, ho5, hb5⟩
  have HO5 := Lib.hid ho5
  have HO35 := Lib.hid (HO3.out.below hb5)
  have HB5 := Lib.hid (bthen HB3.out hb5)
  have HRb := Lib.hid (Rd.below HRa.out hb5)
  clear ho5 hb5 HR4 HO3 HB3 HRa
  go_wp2_with fail
  refine (few08_any _ _ _ HRb.out).mono ?_
  rintro e w6 ⟨v6, rfl, hr6, rfl⟩
  rw [HLL.out] at hr6
  have HR6 := Lib.hid hr6
  clear hr6
  go_wp2_with fail
  refine (text_any _ l num _ HR6.out (by omega) (HT.out.below HB5.out)).mono ?_
  rintro e w7 ⟨v7, rfl, ho7, hb7⟩
  have HO7 := Lib.hid ho7
  have HO37 := Lib.hid (HO35.out.below hb7)
  have HO57 := Lib.hid (HO5.out.below hb7)
  have HB7 := Lib.hid (bthen HB5.out hb7)
  have HRc := Lib.hid (Rd.below HRb.out hb7)
  clear ho7 hb7 HR6 HO35 HO5 HB5 HRb
  go_wp2_with fail
  refine (few08_any _ _ _ HRc.out).mono ?_
  rintro e w8 ⟨v8, rfl, hr8, rfl⟩
  rw [HLL.out] at hr8
  have HR8 := Lib.hid hr8
  clear hr8
  go_wp2_with fail
  refine (rtext_any _ l num _ HR8.out (by omega) (HT.out.below HB7.out)).mono ?_
  rintro e w9 ⟨v9, rfl, ho9, hb9⟩
  have HO9 := Lib.hid ho9
  have HO39 := Lib.hid (HO37.out.below hb9)
  have HO59 := Lib.hid (HO57.out.below hb9)
  have HO79 := Lib.hid (HO7.out.below hb9)
  have HB9 := Lib.hid (bthen HB7.out hb9)
  clear ho9 hb9 HR8 HO37 HO57 HO7 HB7 HRc
  obtain ⟨p, hp⟩ : ∃ p, Pl.label l num = p := ⟨_, rfl⟩
  obtain ⟨q, hq⟩ : ∃ q, Pl.text l num = q := ⟨_, rfl⟩
  rw [hp] at HO39 HO59 ⊢
  rw [hq] at HO79 HO9 ⊢
  obtain ⟨x, hx⟩ : ∃ x, p.getD [] = x := ⟨_, rfl⟩
  obtain ⟨y, hy⟩ : ∃ y, q.getD [] = y := ⟨_, rfl⟩
  rw [hx] at HO39 HO59
  rw [hy] at HO79 HO9
  obtain ⟨A3, c3, hv3⟩ := Kd.N_slice HO39.out
  obtain ⟨A5, c5, hv5⟩ := Kd.N_slice HO59.out
  obtain ⟨A7, c7, hv7⟩ := Kd.N_slice HO79.out
  obtain ⟨A9, c9, hv9⟩ := Kd.N_slice HO9.out
  subst hv3 hv5 hv7 hv9
  clear hp hq hx hy
  obtain ⟨p1, hp1⟩ : ∃ z, p.isSome = z := ⟨_, rfl⟩
  obtain ⟨q1, hq1⟩ : ∃ z, q.isSome = z := ⟨_, rfl⟩
  rw [hp1, hq1]
  have hbp : (p1 == p1) = true := by simp
  have hbq : (q1 == q1) = true := by simp
  clear hp1 hq1
  go_wp2_with (go_at_call 11; refine (shown08_any _).mono ?_; rintro e wz ⟨rfl, hbz⟩; have ex := byte_string (HO39.out.below hbz).rd; have ey := byte_string (HO59.out.below hbz).rd; have ez := byte_string (HO79.out.below hbz).rd; have eu := byte_string (HO9.out.below hbz).rd; have HBz := Lib.hid (bthen HB9.out hbz))
  go_ret
  exact ⟨rfl, HBz.out⟩
end Go.Proofs.YtjogbgiknnfinaaDoor
