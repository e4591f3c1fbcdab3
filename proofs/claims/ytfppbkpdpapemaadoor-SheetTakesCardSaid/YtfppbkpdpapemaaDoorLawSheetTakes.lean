import Derived.Test.YtfppbkpdpapemaaDoorRSTake
import Derived.Test.YtfppbkpdpapemaaDoorRSame20
import Derived.Test.YtfppbkpdpapemaaDoorLaw20
/-! The law SheetTakes, walked. -/
set_option linter.unusedSimpArgs false
set_option linter.unusedVariables false
namespace Go.Proofs.YtfppbkpdpapemaaDoor
open Go.RowKit Go.Proofs.YtfppbkpdpapemaaDoorW.PrintWords Go.Proofs.YtfppbkpdpapemaaDoorW.PrintLast Go.Proofs.YtfppbkpdpapemaaDoorW.PrintMore
attribute [local go_sem] max2_int min2_int max_two min_two

set_option maxRecDepth 100000 in
set_option maxHeartbeats 4000000 in
theorem sheetTakes_walk (v : Value) (b : List UInt8) (w : World) (hv : Rd kb w v b) :
    Calls Tryd.prog 6 #[v] w fun e w' => e = .returned (.bool true) ∧ Below w.heap.size w w' := by
  obtain ⟨A, c, rfl, hc, hF⟩ := hv
  obtain ⟨i0, hi0, _⟩ := Option.map_eq_some_iff.1 infoByte
  obtain ⟨hto, hV⟩ := row_to 27 5 Tryd.underlying27 hi0 hF hc (min b.length 1000) (by omega)
  replace hto := hto .i64 ((min b.length 1000 : Nat) : Int) rfl
  have HV := Lib.hid hV
  have hm := Kd.F_max hF
  clear hi0 hF hV
  go_enter Tryd.func6, Tryd.ntmps6
  go_wp2_with fail
  all_goals rename_i hcase
  · obtain ⟨x, hx, hxl⟩ : ∃ x, Rd kb w (.slice A 1000 c) x ∧ x.length ≤ 1048576 := by
      have h := HV.out
      rw [show min b.length 1000 = 1000 by omega] at h
      exact ⟨_, Kd.V_mono h fun _ _ => trivial, by simp; omega⟩
    have HX := Lib.hid hx
    obtain ⟨s, hs⟩ : ∃ s, (Pl.takeS x).getD Pl.zeroS = s := ⟨_, rfl⟩
    obtain ⟨ec, hec⟩ : ∃ e : Int, (if (Pl.takeS x).isSome then 0 else 6) = e := ⟨_, rfl⟩
    have HE := Lib.hid (⟨hs, hec⟩ : (Pl.takeS x).getD Pl.zeroS = s ∧ (if (Pl.takeS x).isSome then (0 : Int) else 6) = ec)
    clear hs hec hx
    refine (stake_any _ x w HX.out hxl).mono ?_
    rintro e w2 ⟨v2, rfl, hr2, hb2⟩
    rw [HE.out.1] at hr2
    rw [HE.out.1, HE.out.2]
    obtain ⟨A2, c2, hv2, _, _⟩ := id hr2
    subst hv2
    have HR2 := Lib.hid hr2
    have HB2 := Lib.hid hb2
    clear hr2 hb2
    go_wp2_with fail
    refine calls_at fun W3 hW3 => ?_
    have hb3 : Below w2.heap.size w2 W3 := by rw [← hW3]; exact below_alloc (Below.refl _ _) _
    have K3 : Blk W3 w2.heap.size (sheetC s (.slice A2 s.files.length c2)) 38 := by rw [← hW3]; exact Blk.new _ _ _
    clear hW3
    refine (rstake_any _ x W3 (Rd.below HX.out (bthen HB2.out hb3)) hxl).mono ?_
    rintro e w4 ⟨v4, rfl, hr4, hb4⟩
    rw [HE.out.1] at hr4
    rw [HE.out.1, HE.out.2]
    obtain ⟨A4, c4, hv4, _, _⟩ := id hr4
    subst hv4
    have K4 := K3.belowW hb4
    have HR4 := Lib.hid hr4
    have HB4 := Lib.hid (bthen (bthen HB2.out hb3) hb4)
    have HQ4 := Lib.hid (Rd.below HR2.out (bthen hb3 hb4))
    clear hr4 hb3 hb4 K3
    go_wp2_with fail
    refine calls_at fun W5 hW5 => ?_
    have hb5 : Below w4.heap.size w4 W5 := by rw [← hW5]; exact below_alloc (Below.refl _ _) _
    have K5 : Blk W5 w4.heap.size (sheetC s (.slice A4 s.files.length c4)) 38 := by rw [← hW5]; exact Blk.new _ _ _
    have K6 := K4.belowW hb5
    clear hW5
    refine (shown20_any W5).mono ?_
    rintro e w6 ⟨rfl, hb6⟩
    have hA := (K6.belowW hb6)
    have hB := (K5.belowW hb6)
    have HB6 := Lib.hid (bthen HB4.out (bthen hb5 hb6))
    have HQ6 := Lib.hid (Rd.below HQ4.out (bthen hb5 hb6))
    have HR6 := Lib.hid (Rd.below HR4.out (bthen hb5 hb6))
    clear hb5 hb6 K4 K5 K6
    obtain ⟨q0, q1, q2, q3, q4, q5, q6, q7, q8, q9, q10⟩ := shAt_of hA
    have q11 : w6.cell? ⟨w2.heap.size, 11, none⟩ = some (.slice A2 s.files.length c2) := hA.cell.1 11
    obtain ⟨p0, p1, p2, p3, p4, p5, p6, p7, p8, p9, p10⟩ := shAt_of hB
    have p11 : w6.cell? ⟨w4.heap.size, 11, none⟩ = some (.slice A4 s.files.length c4) := hB.cell.1 11
    clear hA hB
    have hee : (ec == ec) = true := by simp
    go_wp2_with fail
    refine (rsame20_any s _ _ w6 HQ6.out HR6.out).mono ?_
    rintro e w7 ⟨rfl, hb7⟩
    have HB7 := Lib.hid (bthen HB6.out hb7)
    clear hb7
    go_wp2_with fail
    go_ret
    exact ⟨rfl, HB7.out⟩
  · obtain ⟨x, hx, hxl⟩ : ∃ x, Rd kb w (.slice A b.length c) x ∧ x.length ≤ 1048576 := by
      have h := HV.out
      rw [show min b.length 1000 = b.length by omega] at h
      exact ⟨_, Kd.V_mono h fun _ _ => trivial, by simp; omega⟩
    have HX := Lib.hid hx
    obtain ⟨s, hs⟩ : ∃ s, (Pl.takeS x).getD Pl.zeroS = s := ⟨_, rfl⟩
    obtain ⟨ec, hec⟩ : ∃ e : Int, (if (Pl.takeS x).isSome then 0 else 6) = e := ⟨_, rfl⟩
    have HE := Lib.hid (⟨hs, hec⟩ : (Pl.takeS x).getD Pl.zeroS = s ∧ (if (Pl.takeS x).isSome then (0 : Int) else 6) = ec)
    clear hs hec hx
    refine (stake_any _ x w HX.out hxl).mono ?_
    rintro e w2 ⟨v2, rfl, hr2, hb2⟩
    rw [HE.out.1] at hr2
    rw [HE.out.1, HE.out.2]
    obtain ⟨A2, c2, hv2, _, _⟩ := id hr2
    subst hv2
    have HR2 := Lib.hid hr2
    have HB2 := Lib.hid hb2
    clear hr2 hb2
    go_wp2_with fail
    refine calls_at fun W3 hW3 => ?_
    have hb3 : Below w2.heap.size w2 W3 := by rw [← hW3]; exact below_alloc (Below.refl _ _) _
    have K3 : Blk W3 w2.heap.size (sheetC s (.slice A2 s.files.length c2)) 38 := by rw [← hW3]; exact Blk.new _ _ _
    clear hW3
    refine (rstake_any _ x W3 (Rd.below HX.out (bthen HB2.out hb3)) hxl).mono ?_
    rintro e w4 ⟨v4, rfl, hr4, hb4⟩
    rw [HE.out.1] at hr4
    rw [HE.out.1, HE.out.2]
    obtain ⟨A4, c4, hv4, _, _⟩ := id hr4
    subst hv4
    have K4 := K3.belowW hb4
    have HR4 := Lib.hid hr4
    have HB4 := Lib.hid (bthen (bthen HB2.out hb3) hb4)
    have HQ4 := Lib.hid (Rd.below HR2.out (bthen hb3 hb4))
    clear hr4 hb3 hb4 K3
    go_wp2_with fail
    refine calls_at fun W5 hW5 => ?_
    have hb5 : Below w4.heap.size w4 W5 := by rw [← hW5]; exact below_alloc (Below.refl _ _) _
    have K5 : Blk W5 w4.heap.size (sheetC s (.slice A4 s.files.length c4)) 38 := by rw [← hW5]; exact Blk.new _ _ _
    have K6 := K4.belowW hb5
    clear hW5
    refine (shown20_any W5).mono ?_
    rintro e w6 ⟨rfl, hb6⟩
    have hA := (K6.belowW hb6)
    have hB := (K5.belowW hb6)
    have HB6 := Lib.hid (bthen HB4.out (bthen hb5 hb6))
    have HQ6 := Lib.hid (Rd.below HQ4.out (bthen hb5 hb6))
    have HR6 := Lib.hid (Rd.below HR4.out (bthen hb5 hb6))
    clear hb5 hb6 K4 K5 K6
    obtain ⟨q0, q1, q2, q3, q4, q5, q6, q7, q8, q9, q10⟩ := shAt_of hA
    have q11 : w6.cell? ⟨w2.heap.size, 11, none⟩ = some (.slice A2 s.files.length c2) := hA.cell.1 11
    obtain ⟨p0, p1, p2, p3, p4, p5, p6, p7, p8, p9, p10⟩ := shAt_of hB
    have p11 : w6.cell? ⟨w4.heap.size, 11, none⟩ = some (.slice A4 s.files.length c4) := hB.cell.1 11
    clear hA hB
    have hee : (ec == ec) = true := by simp
    go_wp2_with fail
    refine (rsame20_any s _ _ w6 HQ6.out HR6.out).mono ?_
    rintro e w7 ⟨rfl, hb7⟩
    have HB7 := Lib.hid (bthen HB6.out hb7)
    clear hb7
    go_wp2_with fail
    go_ret
    exact ⟨rfl, HB7.out⟩
end Go.Proofs.YtfppbkpdpapemaaDoor
