import Derived.Test.YtfppbkpdpapemaaDoorRSPut
import Derived.Test.YtfppbkpdpapemaaDoorLaw20
/-! The law SheetPuts, walked. -/
set_option linter.unusedSimpArgs false
set_option linter.unusedVariables false
namespace Go.Proofs.YtfppbkpdpapemaaDoor
open Go.RowKit Go.Proofs.YtfppbkpdpapemaaDoorW.PrintWords Go.Proofs.YtfppbkpdpapemaaDoorW.PrintLast Go.Proofs.YtfppbkpdpapemaaDoorW.PrintMore
attribute [local go_sem] max2_int min2_int max_two min_two

set_option maxRecDepth 100000 in
set_option maxHeartbeats 4000000 in
theorem sheetPuts_walk (s : Pl.Sheet) (v : Value) (n sum : Int) (w : World) (hv : Rd kFile w v s.files) (hs : ShIn s) (hn0 : -9223372036854775808 ≤ n) (hn1 : n ≤ 9223372036854775807) (hs0 : 0 ≤ sum) (hs1 : sum ≤ 4294967295) :
    Calls Tryd.prog 5 #[sheetV s v, .int .i64 n, .int .u32 sum] w fun e w' => e = .returned (.bool true) ∧ Below w.heap.size w w' := by
  have HV := Lib.hid hv
  obtain ⟨s', hs'⟩ : ∃ s' : Pl.Sheet, (⟨s.c, s.lab, s.edg, s.files.take 40⟩ : Pl.Sheet) = s' := ⟨_, rfl⟩
  have HIN : ShIn s' := by
    subst hs'
    exact ⟨hs.c, hs.l0, hs.l1, hs.e0, hs.e1, fun f hf => hs.f f (List.mem_of_mem_take hf)⟩
  have HFS : s'.files = s.files.take 40 := by subst hs'; rfl
  have HVV : ∀ u : Value, sheetV s u = sheetV s' u := by subst hs'; intro u; rfl
  have HLL : s'.files.length ≤ 40 := by rw [HFS]; simp; omega
  obtain ⟨LP, hLP⟩ : ∃ L, (if Pl.sheetOk s' then Pl.sealB (Pl.sheetB s') else []) = L := ⟨_, rfl⟩
  obtain ⟨ec, hec⟩ : ∃ e : Int, (if Pl.sheetOk s' then 0 else 1) = e := ⟨_, rfl⟩
  obtain ⟨LN, hLN⟩ : ∃ L, (Pl.note s.c n sum).getD [] = L := ⟨_, rfl⟩
  obtain ⟨bn, hbn⟩ : ∃ b, (Pl.note s.c n sum).isSome = b := ⟨_, rfl⟩
  have HEQ := Lib.hid (⟨hLP, hec, hLN, hbn⟩ : (if Pl.sheetOk s' then Pl.sealB (Pl.sheetB s') else []) = LP ∧ (if Pl.sheetOk s' then (0 : Int) else 1) = ec ∧ (Pl.note s.c n sum).getD [] = LN ∧ (Pl.note s.c n sum).isSome = bn)
  have HH := Lib.hid (⟨HIN, HFS, HVV, HLL⟩ : ShIn s' ∧ s'.files = s.files.take 40 ∧ (∀ u : Value, sheetV s u = sheetV s' u) ∧ s'.files.length ≤ 40)
  clear hs' HIN HFS HVV HLL hLP hec hLN hbn
  obtain ⟨A, cc, rfl, hcc, _⟩ := hv
  go_enter Tryd.func5, Tryd.ntmps5
  go_wp2_with fail
  refine calls_at fun W1 hW1 => ?_
  have hb1 : Below w.heap.size w W1 := by rw [← hW1]; exact below_alloc (Below.refl _ _) _
  have K1 : Blk W1 w.heap.size (sheetC s (.slice A s.files.length cc)) 38 := by rw [← hW1]; exact Blk.new _ _ _
  clear hW1
  refine (few20_any s (.slice A s.files.length cc) W1 (Rd.below HV.out hb1)).mono ?_
  rintro e w3 ⟨v3, rfl, hr3, hb3⟩
  have K3 := K1.belowW hb3
  have HB3 := Lib.hid (bthen hb1 hb3)
  rw [HH.out.2.2.1 v3]
  rw [← HH.out.2.1] at hr3
  have HR3 := Lib.hid hr3
  clear hb1 hb3 K1 hr3
  go_wp2_with fail
  refine (sput_any s' v3 w3 HH.out.1 HR3.out HH.out.2.2.2).mono ?_
  rintro e w4 ⟨v4, rfl, ho4, hb4⟩
  rw [HEQ.out.1] at ho4
  rw [HEQ.out.2.1]
  obtain ⟨A4, c4, hv4⟩ := Kd.N_slice ho4
  subst hv4
  have K4 := K3.belowW hb4
  have HB4 := Lib.hid (bthen HB3.out hb4)
  have HP4 := Lib.hid ho4.rd
  obtain ⟨q0, q1, q2, q3, q4, q5, q6, q7, q8, q9, q10⟩ := shAt_of K4
  have q11 := K4.cell.1 11
  clear K3 ho4 hb4 HR3
  go_wp2_with fail
  refine (few20_any s (.slice A s.files.length cc) w4 (Rd.below HV.out HB4.out)).mono ?_
  rintro e w5 ⟨v5, rfl, hr5, hb5⟩
  have K5 := K4.belowW hb5
  have HB5 := Lib.hid (bthen HB4.out hb5)
  have HP5 := Lib.hid (Rd.below HP4.out hb5)
  rw [HH.out.2.2.1 v5]
  rw [← HH.out.2.1] at hr5
  have HR5 := Lib.hid hr5
  clear hb5 hr5 K4 HP4 HB4 q0 q1 q2 q3 q4 q5 q6 q7 q8 q9 q10 q11
  go_wp2_with fail
  refine (rsput_any s' v5 w5 HH.out.1 HR5.out HH.out.2.2.2).mono ?_
  rintro e w6 ⟨v6, rfl, ho6, hb6⟩
  rw [HEQ.out.1] at ho6
  rw [HEQ.out.2.1]
  obtain ⟨A6, c6, hv6⟩ := Kd.N_slice ho6
  subst hv6
  have K6 := K5.belowW hb6
  have HB6 := Lib.hid (bthen HB5.out hb6)
  have HP6 := Lib.hid (Rd.below HP5.out hb6)
  have HQ6 := Lib.hid ho6.rd
  obtain ⟨q0, q1, q2, q3, q4, q5, q6, q7, q8, _, _⟩ := shAt_of K6
  clear K5 ho6 hb6 HR5 HP5 HB5
  go_wp2_with fail
  refine (note_any s.c n sum w6 hs.c hn1 hs0 (by omega)).mono ?_
  rintro e w7 ⟨v7, rfl, ho7, hb7⟩
  rw [HEQ.out.2.2.1] at ho7
  rw [HEQ.out.2.2.2]
  obtain ⟨A7, c7, hv7⟩ := Kd.N_slice ho7
  subst hv7
  have K7 := K6.belowW hb7
  have HB7 := Lib.hid (bthen HB6.out hb7)
  have HP7 := Lib.hid (Rd.below HP6.out hb7)
  have HQ7 := Lib.hid (Rd.below HQ6.out hb7)
  have HN7 := Lib.hid ho7.rd
  clear q0 q1 q2 q3 q4 q5 q6 q7 q8
  obtain ⟨q0, q1, q2, q3, q4, q5, q6, q7, q8, _, _⟩ := shAt_of K7
  clear K6 ho7 hb7 HP6 HQ6 HB6
  go_wp2_with fail
  refine (rnote20_any s.c n sum w7 hs.c hn1 hs0 (by omega)).mono ?_
  rintro e w8 ⟨v8, rfl, ho8, hb8⟩
  rw [HEQ.out.2.2.1] at ho8
  rw [HEQ.out.2.2.2]
  obtain ⟨A8, c8, hv8⟩ := Kd.N_slice ho8
  subst hv8
  have HK8 := Lib.hid (K7.belowW hb8)
  have HB8 := Lib.hid (bthen HB7.out hb8)
  have HP8 := Lib.hid (Rd.below HP7.out hb8)
  have HQ8 := Lib.hid (Rd.below HQ7.out hb8)
  have HN8 := Lib.hid (Rd.below HN7.out hb8)
  have HM8 := Lib.hid ho8.rd
  clear q0 q1 q2 q3 q4 q5 q6 q7 q8 K7 ho8 hb8 HP7 HQ7 HN7 HB7
  have HKEEP := Lib.hid (show ∀ X, Below w8.heap.size w8 X → (X.cell? ⟨w.heap.size, 0, none⟩ = some (.int .u8 (s.c.fmt.toNat : Int)) ∧ X.cell? ⟨w.heap.size, 1, none⟩ = some (.bool s.c.num) ∧ X.cell? ⟨w.heap.size, 2, none⟩ = some (.bool s.c.skip) ∧ X.cell? ⟨w.heap.size, 3, none⟩ = some (.bool s.c.both) ∧ X.cell? ⟨w.heap.size, 4, none⟩ = some (.bool s.c.loops) ∧ X.cell? ⟨w.heap.size, 5, none⟩ = some (.bool s.c.back) ∧ X.cell? ⟨w.heap.size, 6, none⟩ = some (.int .i64 s.c.bud) ∧ X.cell? ⟨w.heap.size, 7, none⟩ = some (.int .i64 s.c.fan) ∧ X.cell? ⟨w.heap.size, 8, none⟩ = some (.int .i64 s.c.sha) ∧ (convert 27 9 (.slice A4 LP.length c4)).run Tryd.prog X = .ok (.string ⟨LP.toArray⟩) X ∧ (convert 27 9 (.slice A6 LP.length c6)).run Tryd.prog X = .ok (.string ⟨LP.toArray⟩) X ∧ (convert 27 9 (.slice A7 LN.length c7)).run Tryd.prog X = .ok (.string ⟨LN.toArray⟩) X ∧ (convert 27 9 (.slice A8 LN.length c8)).run Tryd.prog X = .ok (.string ⟨LN.toArray⟩) X) by
    intro X hX
    obtain ⟨q0, q1, q2, q3, q4, q5, q6, q7, q8, _, _⟩ := shAt_of (HK8.out.belowW hX)
    exact ⟨q0, q1, q2, q3, q4, q5, q6, q7, q8, byte_string (Rd.below HP8.out hX), byte_string (Rd.below HQ8.out hX), byte_string (Rd.below HN8.out hX), byte_string (Rd.below HM8.out hX)⟩)
  have t1 : (ec == ec) = true := by simp
  have t2 : (bn == bn) = true := by simp
  obtain ⟨ns, hns⟩ : ∃ ns, Pl.names s.c = ns := ⟨_, rfl⟩
  have HNS := Lib.hid hns
  have hb0 : Below w8.heap.size w8 w8 := Below.refl _ _
  clear hns
  go_upto_region 5 with fail
  go_region_held3 (fun X => X.cell? ⟨w.heap.size, 0, none⟩ = some (.int .u8 (s.c.fmt.toNat : Int)) ∧ X.cell? ⟨w.heap.size, 1, none⟩ = some (.bool s.c.num) ∧ X.cell? ⟨w.heap.size, 2, none⟩ = some (.bool s.c.skip) ∧ X.cell? ⟨w.heap.size, 3, none⟩ = some (.bool s.c.both) ∧ X.cell? ⟨w.heap.size, 4, none⟩ = some (.bool s.c.loops) ∧ X.cell? ⟨w.heap.size, 5, none⟩ = some (.bool s.c.back) ∧ X.cell? ⟨w.heap.size, 6, none⟩ = some (.int .i64 s.c.bud) ∧ X.cell? ⟨w.heap.size, 7, none⟩ = some (.int .i64 s.c.fan) ∧ X.cell? ⟨w.heap.size, 8, none⟩ = some (.int .i64 s.c.sha) ∧ (convert 27 9 (.slice A4 LP.length c4)).run Tryd.prog X = .ok (.string ⟨LP.toArray⟩) X ∧ (convert 27 9 (.slice A6 LP.length c6)).run Tryd.prog X = .ok (.string ⟨LP.toArray⟩) X ∧ (convert 27 9 (.slice A7 LN.length c7)).run Tryd.prog X = .ok (.string ⟨LN.toArray⟩) X ∧ (convert 27 9 (.slice A8 LN.length c8)).run Tryd.prog X = .ok (.string ⟨LN.toArray⟩) X) (first | exact HKEEP.out _ hB4 | exact HKEEP.out _ hB3 | exact HKEEP.out _ hB2 | exact HKEEP.out _ hB1 | exact HKEEP.out _ hb0.drew | exact HKEEP.out _ hb0)
    (first | (go_at_call 16; refine (texts20_any _ _ ns _ (Rd.below hR9 hb11) hR10).mono ?_; rintro e w12 ⟨rfl, hb12⟩; have hB4 := bthen hB3 hb12) | (go_at_call 17; refine (rnames20_any s.c _).mono ?_; rintro e w11 ⟨v11, rfl, ho11, hb11⟩; rw [HNS.out] at ho11; have hR10 := ho11.rd; have hB3 := bthen hB2 hb11) | (go_at_call 10; refine (names_any s.c _).mono ?_; rintro e w10 ⟨v10, rfl, ho10, hb10⟩; rw [HNS.out] at ho10; have hR9 := ho10.rd; have hB2 := bthen hB1 hb10) | (go_at_call 9; refine (shown20_any _).mono ?_; rintro e w9 ⟨rfl, hb9⟩; have hB1 := bthen hb0.drew hb9))
  go_wp2_with fail
  go_ret
  exact ⟨rfl, bthen HB8.out (by first | exact hB4 | exact hB4.drew)⟩
end Go.Proofs.YtfppbkpdpapemaaDoor
