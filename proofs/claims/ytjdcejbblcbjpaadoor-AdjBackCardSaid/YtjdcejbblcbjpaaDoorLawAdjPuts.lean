import Derived.Test.YtjdcejbblcbjpaaDoorAPut
import Derived.Test.YtjdcejbblcbjpaaDoorLaw9
/-! The law AdjPuts, walked. -/
set_option linter.unusedSimpArgs false
set_option linter.unusedVariables false
namespace Go.Proofs.YtjdcejbblcbjpaaDoor
open Go.RowKit Go.Proofs.YtjdcejbblcbjpaaDoorW.PrintWords Go.Proofs.YtjdcejbblcbjpaaDoorW.PrintLast Go.Proofs.YtjdcejbblcbjpaaDoorW.PrintMore
attribute [local go_sem] max2_int min2_int max_two min_two

theorem some09_any (v : Value) (l : List (List UInt8)) (w : World) (hv : Rd kBytes w v l) : Calls Tryd.prog 7 #[v] w fun e w' => ∃ v', e = .returned v' ∧ Rd kBytes w v' (l.take 20) ∧ w = w' := by
  obtain ⟨A, c, rfl, hc, hF⟩ := hv
  obtain ⟨i0, hi0, _⟩ := Option.map_eq_some_iff.1 infoBytes
  obtain ⟨hcut, hV⟩ := row_to 23 22 Tryd.underlying23 hi0 hF hc (min l.length 20) (by omega)
  have hm := Kd.F_max hF
  have HV := Lib.hid hV
  have e1 : l.take (min l.length 20) = l.take 20 := by
    rcases Nat.le_total l.length 20 with h | h
    · rw [Nat.min_eq_left h, List.take_of_length_le (Nat.le_refl _), List.take_of_length_le h]
    · rw [Nat.min_eq_right h]
  have HE := Lib.hid e1
  clear hV hF e1 hi0
  by_cases h : l.length ≤ 20
  · replace hcut := hcut .i64 (l.length : Int) (by omega)
    have h2 : ¬ (20 : Int) < (l.length : Int) := by omega
    go_enter Tryd.func7, Tryd.ntmps7
    go_wp2_with fail
    go_ret
    exact ⟨_, rfl, by have := HV.out; rw [HE.out, Nat.min_eq_left h] at this; exact this, rfl⟩
  · replace hcut := hcut .i64 (20 : Int) (by omega)
    have h2 : (20 : Int) < (l.length : Int) := by omega
    go_enter Tryd.func7, Tryd.ntmps7
    go_wp2_with fail
    go_ret
    exact ⟨_, rfl, by have := HV.out; rw [HE.out] at this; rw [Nat.min_eq_right (by omega)] at this ⊢; exact this, rfl⟩

set_option maxRecDepth 100000 in
set_option maxHeartbeats 4000000 in
theorem adjPuts_walk (va vt : Value) (a : List UInt8) (ts : List (List UInt8)) (num : Bool) (w : World) (ha : Rd kb w va a) (hto : Rd kBytes w vt ts) (hll : ∀ l ∈ ts, l.length ≤ 140737488355328) (ht : Tab3 w) :
    Calls Tryd.prog 3 #[va, vt, .bool num] w fun e w' => e = .returned (.bool true) ∧ Below w.heap.size w w' := by
  have HA := Lib.hid ha
  have HTO := Lib.hid hto
  have HT := Lib.hid ht
  have HL := Lib.hid (show ∀ l ∈ ts.take 20, l.length ≤ 140737488355328 from fun l hl => hll l (List.mem_of_mem_take hl))
  have HC := Lib.hid (show (a.take 300).length ≤ 140737488355328 ∧ (ts.take 20).length ≤ 20 by constructor <;> (rw [List.length_take]; omega))
  obtain ⟨o, ho⟩ : ∃ o, Pl.aput (a.take 300) (ts.take 20) num = o := ⟨_, rfl⟩
  have HO := Lib.hid ho
  obtain ⟨P, hP⟩ : ∃ P, o.getD [] = P := ⟨_, rfl⟩
  have HP := Lib.hid hP
  obtain ⟨bo, hbo⟩ : ∃ bo, o.isSome = bo := ⟨_, rfl⟩
  have HB := Lib.hid hbo
  clear ha hto ht hll ho hP hbo
  go_enter Tryd.func3, Tryd.ntmps3
  go_wp2_with fail
  refine (few09_any va a w HA.out).mono ?_
  rintro e w1 ⟨v1, rfl, hr1, rfl⟩
  have HR1 := Lib.hid hr1
  clear hr1
  go_wp2_with fail
  refine (some09_any vt ts w HTO.out).mono ?_
  rintro e w1 ⟨v2, rfl, hr2, rfl⟩
  have HR2 := Lib.hid hr2
  clear hr2
  go_wp2_with fail
  refine (aput_any v1 v2 (a.take 300) (ts.take 20) num w HR1.out HR2.out HC.out.1 HC.out.2 HL.out HT.out).mono ?_
  rintro e w3 ⟨v3, rfl, hr3, hb3⟩
  rw [HO.out, HP.out] at hr3
  rw [HO.out, HB.out]
  have HR3 := Lib.hid hr3
  have HB3 := Lib.hid hb3
  obtain ⟨A3, c3, hv3, _, _⟩ := id hr3
  subst hv3
  clear hr3 hb3
  go_wp2_with fail
  refine (few09_any va a w3 (Rd.below HA.out HB3.out)).mono ?_
  rintro e w4 ⟨v4, rfl, hr4, rfl⟩
  have HR4 := Lib.hid hr4
  clear hr4
  go_wp2_with fail
  refine (some09_any vt ts w3 (Rd.below HTO.out HB3.out)).mono ?_
  rintro e w4 ⟨v5, rfl, hr5, rfl⟩
  have HR5 := Lib.hid hr5
  clear hr5
  go_wp2_with fail
  refine (raput_any v4 v5 (a.take 300) (ts.take 20) num w3 HR4.out HR5.out HC.out.1 HC.out.2 HL.out (HT.out.t.below HB3.out)).mono ?_
  rintro e w6 ⟨v6, rfl, ho6, hb6⟩
  rw [HO.out, HP.out] at ho6
  rw [HO.out, HB.out]
  obtain ⟨A6, c6, hv6⟩ := Kd.N_slice ho6
  subst hv6
  have HR6 := Lib.hid ho6.rd
  have HQ6 := Lib.hid (Rd.below HR3.out hb6)
  have HB6 := Lib.hid (bthen HB3.out hb6)
  clear ho6 hb6
  go_wp2_with fail
  refine (shown09_any w6).mono ?_
  rintro e w7 ⟨rfl, hb7⟩
  have HB7 := Lib.hid (bthen HB6.out hb7)
  have t1 := byte_string (Rd.below HR6.out hb7)
  have t2 := byte_string (Rd.below HQ6.out hb7)
  have t3 : (bo == bo) = true := by simp
  clear hb7
  go_wp2_with fail
  go_ret
  exact ⟨rfl, HB7.out⟩
end Go.Proofs.YtjdcejbblcbjpaaDoor
