import Derived.Test.YtfppbkpdpapemaaDoorSPut
import Derived.Test.YtfppbkpdpapemaaDoorSTake
import Derived.Test.YtfppbkpdpapemaaDoorRSame20
import Derived.Test.YtfppbkpdpapemaaDoorLaw20
/-! The law SheetBack, walked. -/
set_option linter.unusedSimpArgs false
set_option linter.unusedVariables false
namespace Go.Proofs.YtfppbkpdpapemaaDoor
open Go.RowKit Go.Proofs.YtfppbkpdpapemaaDoorW.PrintWords Go.Proofs.YtfppbkpdpapemaaDoorW.PrintLast Go.Proofs.YtfppbkpdpapemaaDoorW.PrintMore
attribute [local go_sem] max2_int min2_int max_two min_two

/-- What was put has at least four bytes, and not too many. -/
theorem seal_len {s : Pl.Sheet} (hs : ShIn s) (hok : Pl.sheetOk s = true) (hl : s.files.length ≤ 40) : 4 ≤ (Pl.sealB (Pl.sheetB s)).length ∧ (Pl.sealB (Pl.sheetB s)).length ≤ 1048576 := by
  obtain ⟨hr, h1, h2, h3, h4, _⟩ := (Pl.sheetOk_iff s).1 hok
  have c1 := confB_len s.c (Pl.right_bounds hr)
  have p1 := Pl.putB_len10 (n := s.lab.toNat) (by omega)
  have p2 := Pl.putB_len10 (n := s.edg.toNat) (by omega)
  have p3 := Pl.flatB_len s.files (fun f hf => (hs.f f hf).2.1)
  rw [Pl.sealB_len]
  simp only [Pl.sheetB, List.length_append]
  omega
theorem zero_no : Pl.sheetOk Pl.zeroS = false := Pl.sheetOk_false fun h => by
  have := Pl.right_bounds h.1
  simp [Pl.zeroS] at this
theorem zero_in : ShIn Pl.zeroS := ⟨⟨by decide, by decide, by decide, by decide, by decide, by decide⟩, by decide, by decide, by decide, by decide, fun f hf => by simp [Pl.zeroS] at hf⟩
theorem take_nil : Pl.takeS [] = none := by
  simp [Pl.takeS, Pl.unB]
/-- What is taken is a sheet of numbers that there are, of at most forty files. -/
theorem take_in {b : List UInt8} {s : Pl.Sheet} (h : Pl.takeS b = some s) : ShIn s ∧ s.files.length ≤ 40 := by
  obtain ⟨hok, hsum, _⟩ := Pl.takeS_some h
  obtain ⟨hr, h1, h2, h3, h4, hf⟩ := (Pl.sheetOk_iff s).1 hok
  have hb := Pl.right_bounds hr
  have hlen := Pl.filesOk_len _ _ hf
  refine ⟨⟨⟨by omega, by omega, by omega, by omega, by omega, by omega⟩, by omega, by omega, by omega, by omega, fun f hfm => ?_⟩, by rw [hlen]; exact names_le _⟩
  obtain ⟨k, hk, hkf⟩ := List.getElem_of_mem hfm
  have h9 := Pl.filesOk_at _ _ hf k f ((Pl.names s.c)[k]'(by omega)) (by rw [← hkf]; simp) (by simp)
  simp [Pl.fileOk] at h9
  have := hsum f hfm
  exact ⟨by omega, by omega, this.1, this.2⟩
theorem stake_none (v : Value) (b : List UInt8) (w : World) (hv : Rd kb w v b) (hl : b.length ≤ 1048576) (h : Pl.takeS b = none) : Calls Tryd.prog 18 #[v] w fun e w' => ∃ v' : Value, e = .returned (.tuple #[sheetV Pl.zeroS v', .int .i64 6]) ∧ Rd kFile w' v' [] ∧ Below w.heap.size w w' := by
  refine (stake_any v b w hv hl).mono ?_
  rintro e w' ⟨v', rfl, h1, h2⟩
  rw [h] at h1
  exact ⟨v', by rw [h]; rfl, h1, h2⟩
theorem stake_some (v : Value) (b : List UInt8) (s : Pl.Sheet) (w : World) (hv : Rd kb w v b) (hl : b.length ≤ 1048576) (h : Pl.takeS b = some s) : Calls Tryd.prog 18 #[v] w fun e w' => ∃ v' : Value, e = .returned (.tuple #[sheetV s v', .int .i64 0]) ∧ Rd kFile w' v' s.files ∧ Below w.heap.size w w' := by
  refine (stake_any v b w hv hl).mono ?_
  rintro e w' ⟨v', rfl, h1, h2⟩
  rw [h] at h1
  exact ⟨v', by rw [h]; rfl, h1, h2⟩
theorem sput_ok (s : Pl.Sheet) (v : Value) (w : World) (hs : ShIn s) (hv : Rd kFile w v s.files) (hl : s.files.length ≤ 40) (h : Pl.sheetOk s = true) : Calls Tryd.prog 12 #[sheetV s v] w fun e w' => ∃ v' : Value, e = .returned (.tuple #[v', .int .i64 0]) ∧ Own kb 5 w' w.heap.size v' (Pl.sealB (Pl.sheetB s)) ∧ Below w.heap.size w w' := by
  refine (sput_any s v w hs hv hl).mono ?_
  rintro e w' ⟨v', rfl, h1, h2⟩
  rw [h] at h1
  exact ⟨v', by rw [h]; rfl, h1, h2⟩
theorem sput_no (s : Pl.Sheet) (v : Value) (w : World) (hs : ShIn s) (hv : Rd kFile w v s.files) (hl : s.files.length ≤ 40) (h : Pl.sheetOk s = false) : Calls Tryd.prog 12 #[sheetV s v] w fun e w' => ∃ v' : Value, e = .returned (.tuple #[v', .int .i64 1]) ∧ Own kb 5 w' w.heap.size v' [] ∧ Below w.heap.size w w' := by
  refine (sput_any s v w hs hv hl).mono ?_
  rintro e w' ⟨v', rfl, h1, h2⟩
  rw [h] at h1
  exact ⟨v', by rw [h]; rfl, h1, h2⟩

set_option maxRecDepth 100000 in
set_option maxHeartbeats 4000000 in
theorem sheetBack_walk (s : Pl.Sheet) (v : Value) (a : Int) (u : Value) (b : List UInt8) (w : World) (hv : Rd kFile w v s.files) (hs : ShIn s) (ha0 : 0 ≤ a) (ha1 : a ≤ 65535) (hu : Rd kb w u b) :
    Calls Tryd.prog 7 #[sheetV s v, .int .u16 a, u] w fun e w' => e = .returned (.bool true) ∧ Below w.heap.size w w' := by
  have HV := Lib.hid hv
  obtain ⟨s', hs'⟩ : ∃ s' : Pl.Sheet, (⟨s.c, s.lab, s.edg, s.files.take 40⟩ : Pl.Sheet) = s' := ⟨_, rfl⟩
  have HIN : ShIn s' := by
    subst hs'
    exact ⟨hs.c, hs.l0, hs.l1, hs.e0, hs.e1, fun f hf => hs.f f (List.mem_of_mem_take hf)⟩
  have HFS : s'.files = s.files.take 40 := by subst hs'; rfl
  have HVV : ∀ u : Value, sheetV s u = sheetV s' u := by subst hs'; intro u; rfl
  have HLL : s'.files.length ≤ 40 := by rw [HFS]; simp; omega
  have HH := Lib.hid (⟨HIN, HFS, HVV, HLL⟩ : ShIn s' ∧ s'.files = s.files.take 40 ∧ (∀ u : Value, sheetV s u = sheetV s' u) ∧ s'.files.length ≤ 40)
  clear hs' HIN HFS HVV HLL
  obtain ⟨A, cc, rfl, hcc, _⟩ := hv
  obtain ⟨Ab, cb, rfl, hcb, hF⟩ := hu
  obtain ⟨i0, hi0, _⟩ := Option.map_eq_some_iff.1 infoByte
  obtain ⟨hto, hV⟩ := row_to 27 5 Tryd.underlying27 hi0 hF hcb (min b.length 1000) (by omega)
  replace hto := hto .i64 ((min b.length 1000 : Nat) : Int) rfl
  have HXV := Lib.hid hV
  have hmb := Kd.F_max hF
  clear hi0 hF hV
  go_enter Tryd.func7, Tryd.ntmps7
  go_wp2_with fail
  refine calls_at fun W1 hW1 => ?_
  have hb1 : Below w.heap.size w W1 := by rw [← hW1]; exact below_alloc (Below.refl _ _) _
  have K1 : Blk W1 w.heap.size (sheetC s (.slice A s.files.length cc)) 38 := by rw [← hW1]; exact Blk.new _ _ _
  clear hW1
  refine (shown20_any W1).mono ?_
  rintro e w2 ⟨rfl, hb2⟩
  have K2 := K1.belowW hb2
  have HB2 := Lib.hid (bthen hb1 hb2)
  obtain ⟨q0, q1, q2, q3, q4, q5, q6, q7, q8, q9, q10⟩ := shAt_of K2
  have q11 : w2.cell? ⟨w.heap.size, 11, none⟩ = some (.slice A s.files.length cc) := K2.cell.1 11
  clear hb1 hb2 K1
  go_wp2_with fail
  refine (few20_any s (.slice A s.files.length cc) w2 (Rd.below HV.out HB2.out)).mono ?_
  rintro e w3 ⟨v3, rfl, hr3, hb3⟩
  have K3 := K2.belowW hb3
  have HB3 := Lib.hid (bthen HB2.out hb3)
  rw [HH.out.2.2.1 v3]
  rw [← HH.out.2.1] at hr3
  have HR3 := Lib.hid hr3
  clear hb3 K2 hr3 q0 q1 q2 q3 q4 q5 q6 q7 q8 q9 q10 q11
  go_wp2_with fail

  rcases hok : Pl.sheetOk s' with _ | _
  · refine (sput_no s' v3 w3 HH.out.1 HR3.out HH.out.2.2.2 hok).mono ?_
    rintro e w4 ⟨v4, rfl, ho4, hb4⟩
    have HB4 := Lib.hid (bthen HB3.out hb4)
    obtain ⟨A4, c4, hv4⟩ := Kd.N_slice ho4
    simp only [List.length_nil] at hv4
    subst hv4
    have HP4 := Lib.hid ho4.rd
    clear ho4 hb4
    go_wp2_with fail
    refine (stake_none _ [] w4 HP4.out (by simp) take_nil).mono ?_
    rintro e w5 ⟨v5, rfl, hr5, hb5⟩
    obtain ⟨A5, c5, hv5, _, _⟩ := id hr5
    subst hv5
    have HB5 := Lib.hid (bthen HB4.out hb5)
    clear hr5 hb5
    go_upto_region 13 with fail
    refine wp_at fun W6 hW6 => ?_
    have hb6 : Below w5.heap.size w5 W6 := by rw [← hW6]; exact below_alloc (Below.refl _ _) _
    have HB6 := Lib.hid (bthen HB5.out hb6)
    clear hW6 hb6
    go_wp2_with fail
    all_goals rename_i hcase
    · obtain ⟨x, hx, hxl⟩ : ∃ x, Rd kb w (.slice Ab 1000 cb) x ∧ x.length ≤ 1048576 := by
        have h := HXV.out
        rw [show min b.length 1000 = 1000 by omega] at h
        exact ⟨_, Kd.V_mono h fun _ _ => trivial, by simp; omega⟩
      have HX := Lib.hid (Rd.below hx (HB6.out))
      clear hx
      rcases hk : Pl.takeS x with _ | s3
      · refine (stake_none _ x W6 HX.out hxl hk).mono ?_
        rintro e u8 ⟨v8, rfl, hr8, hb8⟩
        obtain ⟨s3, hs3⟩ : ∃ s3, Pl.zeroS = s3 := ⟨_, rfl⟩
        have HI := Lib.hid (show ShIn s3 ∧ s3.files.length ≤ 40 ∧ Pl.sheetOk s3 = false ∧ s3.files = [] by rw [← hs3]; exact ⟨zero_in, by simp [Pl.zeroS], zero_no, rfl⟩)
        rw [hs3]
        clear hs3
        obtain ⟨A8, c8, hv8, _, _⟩ := id hr8
        subst hv8
        have HR8 := Lib.hid hr8
        have HB8 := Lib.hid (bthen (HB6.out) hb8)
        have HX8 := Lib.hid (Rd.below HX.out hb8)
        clear hr8 hb8
        go_upto_region 15 with fail
        refine wp_at fun U9 hU9 => ?_
        have hb9 : Below u8.heap.size u8 U9 := by rw [← hU9]; exact below_alloc (Below.refl _ _) _
        have K9 : Blk U9 u8.heap.size (sheetC s3 (.slice A8 0 c8)) 38 := by rw [← hU9]; exact Blk.new _ _ _
        have HX9 := Lib.hid (Rd.below HX8.out hb9)
        have HR9 := Lib.hid (Rd.below HR8.out hb9)
        have HB9 := Lib.hid (bthen HB8.out hb9)
        clear hU9 hb9
        obtain ⟨q0, q1, q2, q3, q4, q5, q6, q7, q8, q9, q10⟩ := shAt_of K9
        have q11 : U9.cell? ⟨u8.heap.size, 11, none⟩ = some (.slice A8 0 c8) := K9.cell.1 11
        go_wp2_with fail
        refine (sput_no s3 _ U9 HI.out.1 (by rw [HI.out.2.2.2]; exact HR9.out) HI.out.2.1 HI.out.2.2.1).mono ?_
        rintro e u10 ⟨v10, rfl, ho10, hb10⟩
        have K10 := K9.belowW hb10
        have q11' : u10.cell? ⟨u8.heap.size, 11, none⟩ = some (.slice A8 0 c8) := K10.cell.1 11
        have HB10 := Lib.hid (bthen HB9.out hb10)
        clear ho10 hb10
        go_wp2_with fail
        go_ret
        exact ⟨rfl, HB10.out⟩
      · refine (stake_some _ x s3 W6 HX.out hxl hk).mono ?_
        rintro e u8 ⟨v8, rfl, hr8, hb8⟩
        have HI := Lib.hid (show ShIn s3 ∧ s3.files.length ≤ 40 ∧ Pl.sheetOk s3 = true ∧ Pl.sealB (Pl.sheetB s3) = x from ⟨(take_in hk).1, (take_in hk).2, (Pl.takeS_some hk).1, (Pl.takeS_some hk).2.2⟩)
        obtain ⟨A8, c8, hv8, _, _⟩ := id hr8
        subst hv8
        have HR8 := Lib.hid hr8
        have HB8 := Lib.hid (bthen (HB6.out) hb8)
        have HX8 := Lib.hid (Rd.below HX.out hb8)
        clear hr8 hb8
        go_upto_region 15 with fail
        refine wp_at fun U9 hU9 => ?_
        have hb9 : Below u8.heap.size u8 U9 := by rw [← hU9]; exact below_alloc (Below.refl _ _) _
        have K9 : Blk U9 u8.heap.size (sheetC s3 (.slice A8 s3.files.length c8)) 38 := by rw [← hU9]; exact Blk.new _ _ _
        have HX9 := Lib.hid (Rd.below HX8.out hb9)
        have HR9 := Lib.hid (Rd.below HR8.out hb9)
        have HB9 := Lib.hid (bthen HB8.out hb9)
        clear hU9 hb9
        obtain ⟨q0, q1, q2, q3, q4, q5, q6, q7, q8, q9, q10⟩ := shAt_of K9
        have q11 : U9.cell? ⟨u8.heap.size, 11, none⟩ = some (.slice A8 s3.files.length c8) := K9.cell.1 11
        go_wp2_with fail
        refine (sput_ok s3 _ U9 HI.out.1 HR9.out HI.out.2.1 HI.out.2.2.1).mono ?_
        rintro e u10 ⟨v10, rfl, ho10, hb10⟩
        rw [HI.out.2.2.2] at ho10
        obtain ⟨A10, c10, hv10⟩ := Kd.N_slice ho10
        subst hv10
        have HB10 := Lib.hid (bthen HB9.out hb10)
        have t1 := byte_string ho10.rd
        have t2 := byte_string (Rd.below HX9.out hb10)
        clear ho10 hb10
        go_wp2_with fail
        go_ret
        exact ⟨rfl, HB10.out⟩
    · obtain ⟨x, hx, hxl⟩ : ∃ x, Rd kb w (.slice Ab b.length cb) x ∧ x.length ≤ 1048576 := by
        have h := HXV.out
        rw [show min b.length 1000 = b.length by omega] at h
        exact ⟨_, Kd.V_mono h fun _ _ => trivial, by simp; omega⟩
      have HX := Lib.hid (Rd.below hx (HB6.out))
      clear hx
      rcases hk : Pl.takeS x with _ | s3
      · refine (stake_none _ x W6 HX.out hxl hk).mono ?_
        rintro e u8 ⟨v8, rfl, hr8, hb8⟩
        obtain ⟨s3, hs3⟩ : ∃ s3, Pl.zeroS = s3 := ⟨_, rfl⟩
        have HI := Lib.hid (show ShIn s3 ∧ s3.files.length ≤ 40 ∧ Pl.sheetOk s3 = false ∧ s3.files = [] by rw [← hs3]; exact ⟨zero_in, by simp [Pl.zeroS], zero_no, rfl⟩)
        rw [hs3]
        clear hs3
        obtain ⟨A8, c8, hv8, _, _⟩ := id hr8
        subst hv8
        have HR8 := Lib.hid hr8
        have HB8 := Lib.hid (bthen (HB6.out) hb8)
        have HX8 := Lib.hid (Rd.below HX.out hb8)
        clear hr8 hb8
        go_upto_region 15 with fail
        refine wp_at fun U9 hU9 => ?_
        have hb9 : Below u8.heap.size u8 U9 := by rw [← hU9]; exact below_alloc (Below.refl _ _) _
        have K9 : Blk U9 u8.heap.size (sheetC s3 (.slice A8 0 c8)) 38 := by rw [← hU9]; exact Blk.new _ _ _
        have HX9 := Lib.hid (Rd.below HX8.out hb9)
        have HR9 := Lib.hid (Rd.below HR8.out hb9)
        have HB9 := Lib.hid (bthen HB8.out hb9)
        clear hU9 hb9
        obtain ⟨q0, q1, q2, q3, q4, q5, q6, q7, q8, q9, q10⟩ := shAt_of K9
        have q11 : U9.cell? ⟨u8.heap.size, 11, none⟩ = some (.slice A8 0 c8) := K9.cell.1 11
        go_wp2_with fail
        refine (sput_no s3 _ U9 HI.out.1 (by rw [HI.out.2.2.2]; exact HR9.out) HI.out.2.1 HI.out.2.2.1).mono ?_
        rintro e u10 ⟨v10, rfl, ho10, hb10⟩
        have K10 := K9.belowW hb10
        have q11' : u10.cell? ⟨u8.heap.size, 11, none⟩ = some (.slice A8 0 c8) := K10.cell.1 11
        have HB10 := Lib.hid (bthen HB9.out hb10)
        clear ho10 hb10
        go_wp2_with fail
        go_ret
        exact ⟨rfl, HB10.out⟩
      · refine (stake_some _ x s3 W6 HX.out hxl hk).mono ?_
        rintro e u8 ⟨v8, rfl, hr8, hb8⟩
        have HI := Lib.hid (show ShIn s3 ∧ s3.files.length ≤ 40 ∧ Pl.sheetOk s3 = true ∧ Pl.sealB (Pl.sheetB s3) = x from ⟨(take_in hk).1, (take_in hk).2, (Pl.takeS_some hk).1, (Pl.takeS_some hk).2.2⟩)
        obtain ⟨A8, c8, hv8, _, _⟩ := id hr8
        subst hv8
        have HR8 := Lib.hid hr8
        have HB8 := Lib.hid (bthen (HB6.out) hb8)
        have HX8 := Lib.hid (Rd.below HX.out hb8)
        clear hr8 hb8
        go_upto_region 15 with fail
        refine wp_at fun U9 hU9 => ?_
        have hb9 : Below u8.heap.size u8 U9 := by rw [← hU9]; exact below_alloc (Below.refl _ _) _
        have K9 : Blk U9 u8.heap.size (sheetC s3 (.slice A8 s3.files.length c8)) 38 := by rw [← hU9]; exact Blk.new _ _ _
        have HX9 := Lib.hid (Rd.below HX8.out hb9)
        have HR9 := Lib.hid (Rd.below HR8.out hb9)
        have HB9 := Lib.hid (bthen HB8.out hb9)
        clear hU9 hb9
        obtain ⟨q0, q1, q2, q3, q4, q5, q6, q7, q8, q9, q10⟩ := shAt_of K9
        have q11 : U9.cell? ⟨u8.heap.size, 11, none⟩ = some (.slice A8 s3.files.length c8) := K9.cell.1 11
        go_wp2_with fail
        refine (sput_ok s3 _ U9 HI.out.1 HR9.out HI.out.2.1 HI.out.2.2.1).mono ?_
        rintro e u10 ⟨v10, rfl, ho10, hb10⟩
        rw [HI.out.2.2.2] at ho10
        obtain ⟨A10, c10, hv10⟩ := Kd.N_slice ho10
        subst hv10
        have HB10 := Lib.hid (bthen HB9.out hb10)
        have t1 := byte_string ho10.rd
        have t2 := byte_string (Rd.below HX9.out hb10)
        clear ho10 hb10
        go_wp2_with fail
        go_ret
        exact ⟨rfl, HB10.out⟩
  · refine (sput_ok s' v3 w3 HH.out.1 HR3.out HH.out.2.2.2 hok).mono ?_
    rintro e w4 ⟨v4, rfl, ho4, hb4⟩
    have K4 := K3.belowW hb4
    have HB4 := Lib.hid (bthen HB3.out hb4)
    obtain ⟨P, hP⟩ : ∃ P, Pl.sealB (Pl.sheetB s') = P := ⟨_, rfl⟩
    rw [hP] at ho4
    have HP := Lib.hid (show Pl.takeS P = some s' ∧ 4 ≤ P.length ∧ P.length ≤ 1048576 by
      rw [← hP]
      have := seal_len HH.out.1 hok HH.out.2.2.2
      exact ⟨Pl.takeS_put s' hok fun f hf => ⟨(HH.out.1.f f hf).2.2.1, (HH.out.1.f f hf).2.2.2⟩, this.1, this.2⟩)
    obtain ⟨A4, c4, hv4⟩ := Kd.N_slice ho4
    subst hv4
    have HP4 := Lib.hid ho4.rd
    have hp0 : ¬ (P.length = 0) := by have := HP.out; omega
    clear K3 hP ho4 hb4 HR3
    go_wp2_with fail
    refine (stake_some _ P s' w4 HP4.out HP.out.2.2 HP.out.1).mono ?_
    rintro e w5 ⟨v5, rfl, hr5, hb5⟩
    obtain ⟨A5, c5, hv5, _, _⟩ := id hr5
    subst hv5
    have K5 := K4.belowW hb5
    have HR5 := Lib.hid hr5
    have HB5 := Lib.hid (bthen HB4.out hb5)
    have HP5 := Lib.hid (Rd.below HP4.out hb5)
    clear K4 hr5 hb5
    go_upto_region 5 with fail
    refine wp_at fun W6 hW6 => ?_
    have hb6 : Below w5.heap.size w5 W6 := by rw [← hW6]; exact below_alloc (Below.refl _ _) _
    have L6 : Blk W6 w5.heap.size (sheetC s' (.slice A5 s'.files.length c5)) 38 := by rw [← hW6]; exact Blk.new _ _ _
    have K6 := K5.belowW hb6
    have HB6 := Lib.hid (bthen HB5.out hb6)
    have HP6 := Lib.hid (Rd.below HP5.out hb6)
    have HR6 := Lib.hid (Rd.below HR5.out hb6)
    clear hW6 hb6 K5
    have HKEEP := Lib.hid (show ∀ X, Below W6.heap.size W6 X → (X.cell? ⟨w.heap.size, 0, none⟩ = some (.int .u8 (s.c.fmt.toNat : Int)) ∧ X.cell? ⟨w.heap.size, 1, none⟩ = some (.bool s.c.num) ∧ X.cell? ⟨w.heap.size, 2, none⟩ = some (.bool s.c.skip) ∧ X.cell? ⟨w.heap.size, 3, none⟩ = some (.bool s.c.both) ∧ X.cell? ⟨w.heap.size, 4, none⟩ = some (.bool s.c.loops) ∧ X.cell? ⟨w.heap.size, 5, none⟩ = some (.bool s.c.back) ∧ X.cell? ⟨w.heap.size, 6, none⟩ = some (.int .i64 s.c.bud) ∧ X.cell? ⟨w.heap.size, 7, none⟩ = some (.int .i64 s.c.fan) ∧ X.cell? ⟨w.heap.size, 8, none⟩ = some (.int .i64 s.c.sha) ∧ X.cell? ⟨w.heap.size, 9, none⟩ = some (.int .i64 s.lab) ∧ X.cell? ⟨w.heap.size, 10, none⟩ = some (.int .i64 s.edg) ∧ X.cell? ⟨w.heap.size, 11, none⟩ = some (.slice A s.files.length cc) ∧ X.cell? ⟨w5.heap.size, 0, none⟩ = some (.int .u8 (s'.c.fmt.toNat : Int)) ∧ X.cell? ⟨w5.heap.size, 1, none⟩ = some (.bool s'.c.num) ∧ X.cell? ⟨w5.heap.size, 2, none⟩ = some (.bool s'.c.skip) ∧ X.cell? ⟨w5.heap.size, 3, none⟩ = some (.bool s'.c.both) ∧ X.cell? ⟨w5.heap.size, 4, none⟩ = some (.bool s'.c.loops) ∧ X.cell? ⟨w5.heap.size, 5, none⟩ = some (.bool s'.c.back) ∧ X.cell? ⟨w5.heap.size, 6, none⟩ = some (.int .i64 s'.c.bud) ∧ X.cell? ⟨w5.heap.size, 7, none⟩ = some (.int .i64 s'.c.fan) ∧ X.cell? ⟨w5.heap.size, 8, none⟩ = some (.int .i64 s'.c.sha) ∧ X.cell? ⟨w5.heap.size, 9, none⟩ = some (.int .i64 s'.lab) ∧ X.cell? ⟨w5.heap.size, 10, none⟩ = some (.int .i64 s'.edg) ∧ X.cell? ⟨w5.heap.size, 11, none⟩ = some (.slice A5 s'.files.length c5)) by
      intro X hX
      obtain ⟨q0, q1, q2, q3, q4, q5, q6, q7, q8, q9, q10⟩ := shAt_of (K6.belowW hX)
      obtain ⟨p0, p1, p2, p3, p4, p5, p6, p7, p8, p9, p10⟩ := shAt_of (L6.belowW hX)
      exact ⟨q0, q1, q2, q3, q4, q5, q6, q7, q8, q9, q10, (K6.belowW hX).cell.1 11, p0, p1, p2, p3, p4, p5, p6, p7, p8, p9, p10, (L6.belowW hX).cell.1 11⟩)
    have hb0 : Below W6.heap.size W6 W6 := Below.refl _ _
    go_region_held3 (fun X => X.cell? ⟨w.heap.size, 0, none⟩ = some (.int .u8 (s.c.fmt.toNat : Int)) ∧ X.cell? ⟨w.heap.size, 1, none⟩ = some (.bool s.c.num) ∧ X.cell? ⟨w.heap.size, 2, none⟩ = some (.bool s.c.skip) ∧ X.cell? ⟨w.heap.size, 3, none⟩ = some (.bool s.c.both) ∧ X.cell? ⟨w.heap.size, 4, none⟩ = some (.bool s.c.loops) ∧ X.cell? ⟨w.heap.size, 5, none⟩ = some (.bool s.c.back) ∧ X.cell? ⟨w.heap.size, 6, none⟩ = some (.int .i64 s.c.bud) ∧ X.cell? ⟨w.heap.size, 7, none⟩ = some (.int .i64 s.c.fan) ∧ X.cell? ⟨w.heap.size, 8, none⟩ = some (.int .i64 s.c.sha) ∧ X.cell? ⟨w.heap.size, 9, none⟩ = some (.int .i64 s.lab) ∧ X.cell? ⟨w.heap.size, 10, none⟩ = some (.int .i64 s.edg) ∧ X.cell? ⟨w.heap.size, 11, none⟩ = some (.slice A s.files.length cc) ∧ X.cell? ⟨w5.heap.size, 0, none⟩ = some (.int .u8 (s'.c.fmt.toNat : Int)) ∧ X.cell? ⟨w5.heap.size, 1, none⟩ = some (.bool s'.c.num) ∧ X.cell? ⟨w5.heap.size, 2, none⟩ = some (.bool s'.c.skip) ∧ X.cell? ⟨w5.heap.size, 3, none⟩ = some (.bool s'.c.both) ∧ X.cell? ⟨w5.heap.size, 4, none⟩ = some (.bool s'.c.loops) ∧ X.cell? ⟨w5.heap.size, 5, none⟩ = some (.bool s'.c.back) ∧ X.cell? ⟨w5.heap.size, 6, none⟩ = some (.int .i64 s'.c.bud) ∧ X.cell? ⟨w5.heap.size, 7, none⟩ = some (.int .i64 s'.c.fan) ∧ X.cell? ⟨w5.heap.size, 8, none⟩ = some (.int .i64 s'.c.sha) ∧ X.cell? ⟨w5.heap.size, 9, none⟩ = some (.int .i64 s'.lab) ∧ X.cell? ⟨w5.heap.size, 10, none⟩ = some (.int .i64 s'.edg) ∧ X.cell? ⟨w5.heap.size, 11, none⟩ = some (.slice A5 s'.files.length c5)) (first | exact HKEEP.out _ hB2 | exact HKEEP.out _ hB1 | exact HKEEP.out _ hb0.drew | exact HKEEP.out _ hb0)
      (first | (go_at_call 20; refine (rsame20_any s' _ _ _ (Rd.below (Rd.below HR6.out hb0.drew) hb7) hr7).mono ?_; rintro e w8 ⟨rfl, hb8⟩; have hB2 := bthen hB1 hb8) | (go_at_call 13; refine (few20_any s (.slice A s.files.length cc) _ (Rd.below HV.out (bthen HB6.out hb0.drew))).mono ?_; rintro e w7 ⟨v7, rfl, hr7, hb7⟩; rw [HH.out.2.2.1 v7]; rw [← HH.out.2.1] at hr7; have hB1 := bthen hb0.drew hb7))
    have HB8 := Lib.hid (bthen HB6.out hB2)
    have HP8 := Lib.hid (Rd.below HP6.out hB2)
    clear HKEEP hB1 hB2 hb0 hb7 hb8
    obtain ⟨m, hm⟩ : ∃ m : Nat, a % (P.length : Int) = (m : Int) := ⟨(a % (P.length : Int)).toNat, by rw [Int.toNat_of_nonneg (Int.emod_nonneg _ (by omega))]⟩
    have hmlt : m < P.length := by have := Int.emod_lt_of_pos a (show (0 : Int) < P.length by omega); omega
    have htm : a.tmod (P.length : Int) = (m : Int) := by rw [Int.tmod_eq_emod_of_nonneg ha0]; exact hm
    obtain ⟨A4', c4', he4, hc4, hF4⟩ := id HP8.out
    obtain ⟨rfl, _, rfl⟩ : A4 = A4' ∧ P.length = P.length ∧ c4 = c4' := by simpa using he4
    obtain ⟨i1, hi1, _⟩ := Option.map_eq_some_iff.1 infoByte
    obtain ⟨htoP, hVP⟩ := row_to 27 5 Tryd.underlying27 hi1 hF4 hc4 m (by omega)
    replace htoP := htoP .i64 (m : Int) rfl
    have hwa : IntKind.i64.wrap a = a := IntWalk.i64_in _ (by omega)
    have HVP := Lib.hid (show Rd kb w8 (.slice A4 m c4) (P.take m) from Kd.V_mono hVP fun _ _ => trivial)
    have hyl : (P.take m).length = m := by simp; omega
    obtain ⟨y, hy⟩ : ∃ y, P.take m = y := ⟨_, rfl⟩
    rw [hy] at HVP hyl
    have HYL := Lib.hid hyl
    have HML := Lib.hid (show y.length ≤ 1048576 by have := HP.out; have := HYL.out; omega)
    clear he4 hF4 hVP hi1 hy hyl
    go_wp2_with fail
    rcases hkm : Pl.takeS y with _ | s2
    · refine (stake_none _ y w8 HVP.out HML.out hkm).mono ?_
      rintro e w11 ⟨v11, rfl, hr11, hb11⟩
      obtain ⟨A11, c11, hv11, _, _⟩ := id hr11
      subst hv11
      have HB11 := Lib.hid (bthen HB8.out hb11)
      clear hr11 hb11
      go_upto_region 13 with fail
      refine wp_at fun W12 hW12 => ?_
      have hb12 : Below w11.heap.size w11 W12 := by rw [← hW12]; exact below_alloc (Below.refl _ _) _
      have HB12 := Lib.hid (bthen HB11.out hb12)
      clear hW12 hb12
      go_wp2_with fail
      all_goals rename_i hcase
      · obtain ⟨x, hx, hxl⟩ : ∃ x, Rd kb w (.slice Ab 1000 cb) x ∧ x.length ≤ 1048576 := by
          have h := HXV.out
          rw [show min b.length 1000 = 1000 by omega] at h
          exact ⟨_, Kd.V_mono h fun _ _ => trivial, by simp; omega⟩
        have HX := Lib.hid (Rd.below hx (HB12.out))
        clear hx
        rcases hk : Pl.takeS x with _ | s3
        · refine (stake_none _ x W12 HX.out hxl hk).mono ?_
          rintro e u8 ⟨v8, rfl, hr8, hb8⟩
          obtain ⟨s3, hs3⟩ : ∃ s3, Pl.zeroS = s3 := ⟨_, rfl⟩
          have HI := Lib.hid (show ShIn s3 ∧ s3.files.length ≤ 40 ∧ Pl.sheetOk s3 = false ∧ s3.files = [] by rw [← hs3]; exact ⟨zero_in, by simp [Pl.zeroS], zero_no, rfl⟩)
          rw [hs3]
          clear hs3
          obtain ⟨A8, c8, hv8, _, _⟩ := id hr8
          subst hv8
          have HR8 := Lib.hid hr8
          have HB8 := Lib.hid (bthen (HB12.out) hb8)
          have HX8 := Lib.hid (Rd.below HX.out hb8)
          clear hr8 hb8
          go_upto_region 15 with fail
          refine wp_at fun U9 hU9 => ?_
          have hb9 : Below u8.heap.size u8 U9 := by rw [← hU9]; exact below_alloc (Below.refl _ _) _
          have K9 : Blk U9 u8.heap.size (sheetC s3 (.slice A8 0 c8)) 38 := by rw [← hU9]; exact Blk.new _ _ _
          have HX9 := Lib.hid (Rd.below HX8.out hb9)
          have HR9 := Lib.hid (Rd.below HR8.out hb9)
          have HB9 := Lib.hid (bthen HB8.out hb9)
          clear hU9 hb9
          obtain ⟨q0, q1, q2, q3, q4, q5, q6, q7, q8, q9, q10⟩ := shAt_of K9
          have q11 : U9.cell? ⟨u8.heap.size, 11, none⟩ = some (.slice A8 0 c8) := K9.cell.1 11
          go_wp2_with fail
          refine (sput_no s3 _ U9 HI.out.1 (by rw [HI.out.2.2.2]; exact HR9.out) HI.out.2.1 HI.out.2.2.1).mono ?_
          rintro e u10 ⟨v10, rfl, ho10, hb10⟩
          have K10 := K9.belowW hb10
          have q11' : u10.cell? ⟨u8.heap.size, 11, none⟩ = some (.slice A8 0 c8) := K10.cell.1 11
          have HB10 := Lib.hid (bthen HB9.out hb10)
          clear ho10 hb10
          go_wp2_with fail
          go_ret
          exact ⟨rfl, HB10.out⟩
        · refine (stake_some _ x s3 W12 HX.out hxl hk).mono ?_
          rintro e u8 ⟨v8, rfl, hr8, hb8⟩
          have HI := Lib.hid (show ShIn s3 ∧ s3.files.length ≤ 40 ∧ Pl.sheetOk s3 = true ∧ Pl.sealB (Pl.sheetB s3) = x from ⟨(take_in hk).1, (take_in hk).2, (Pl.takeS_some hk).1, (Pl.takeS_some hk).2.2⟩)
          obtain ⟨A8, c8, hv8, _, _⟩ := id hr8
          subst hv8
          have HR8 := Lib.hid hr8
          have HB8 := Lib.hid (bthen (HB12.out) hb8)
          have HX8 := Lib.hid (Rd.below HX.out hb8)
          clear hr8 hb8
          go_upto_region 15 with fail
          refine wp_at fun U9 hU9 => ?_
          have hb9 : Below u8.heap.size u8 U9 := by rw [← hU9]; exact below_alloc (Below.refl _ _) _
          have K9 : Blk U9 u8.heap.size (sheetC s3 (.slice A8 s3.files.length c8)) 38 := by rw [← hU9]; exact Blk.new _ _ _
          have HX9 := Lib.hid (Rd.below HX8.out hb9)
          have HR9 := Lib.hid (Rd.below HR8.out hb9)
          have HB9 := Lib.hid (bthen HB8.out hb9)
          clear hU9 hb9
          obtain ⟨q0, q1, q2, q3, q4, q5, q6, q7, q8, q9, q10⟩ := shAt_of K9
          have q11 : U9.cell? ⟨u8.heap.size, 11, none⟩ = some (.slice A8 s3.files.length c8) := K9.cell.1 11
          go_wp2_with fail
          refine (sput_ok s3 _ U9 HI.out.1 HR9.out HI.out.2.1 HI.out.2.2.1).mono ?_
          rintro e u10 ⟨v10, rfl, ho10, hb10⟩
          rw [HI.out.2.2.2] at ho10
          obtain ⟨A10, c10, hv10⟩ := Kd.N_slice ho10
          subst hv10
          have HB10 := Lib.hid (bthen HB9.out hb10)
          have t1 := byte_string ho10.rd
          have t2 := byte_string (Rd.below HX9.out hb10)
          clear ho10 hb10
          go_wp2_with fail
          go_ret
          exact ⟨rfl, HB10.out⟩
      · obtain ⟨x, hx, hxl⟩ : ∃ x, Rd kb w (.slice Ab b.length cb) x ∧ x.length ≤ 1048576 := by
          have h := HXV.out
          rw [show min b.length 1000 = b.length by omega] at h
          exact ⟨_, Kd.V_mono h fun _ _ => trivial, by simp; omega⟩
        have HX := Lib.hid (Rd.below hx (HB12.out))
        clear hx
        rcases hk : Pl.takeS x with _ | s3
        · refine (stake_none _ x W12 HX.out hxl hk).mono ?_
          rintro e u8 ⟨v8, rfl, hr8, hb8⟩
          obtain ⟨s3, hs3⟩ : ∃ s3, Pl.zeroS = s3 := ⟨_, rfl⟩
          have HI := Lib.hid (show ShIn s3 ∧ s3.files.length ≤ 40 ∧ Pl.sheetOk s3 = false ∧ s3.files = [] by rw [← hs3]; exact ⟨zero_in, by simp [Pl.zeroS], zero_no, rfl⟩)
          rw [hs3]
          clear hs3
          obtain ⟨A8, c8, hv8, _, _⟩ := id hr8
          subst hv8
          have HR8 := Lib.hid hr8
          have HB8 := Lib.hid (bthen (HB12.out) hb8)
          have HX8 := Lib.hid (Rd.below HX.out hb8)
          clear hr8 hb8
          go_upto_region 15 with fail
          refine wp_at fun U9 hU9 => ?_
          have hb9 : Below u8.heap.size u8 U9 := by rw [← hU9]; exact below_alloc (Below.refl _ _) _
          have K9 : Blk U9 u8.heap.size (sheetC s3 (.slice A8 0 c8)) 38 := by rw [← hU9]; exact Blk.new _ _ _
          have HX9 := Lib.hid (Rd.below HX8.out hb9)
          have HR9 := Lib.hid (Rd.below HR8.out hb9)
          have HB9 := Lib.hid (bthen HB8.out hb9)
          clear hU9 hb9
          obtain ⟨q0, q1, q2, q3, q4, q5, q6, q7, q8, q9, q10⟩ := shAt_of K9
          have q11 : U9.cell? ⟨u8.heap.size, 11, none⟩ = some (.slice A8 0 c8) := K9.cell.1 11
          go_wp2_with fail
          refine (sput_no s3 _ U9 HI.out.1 (by rw [HI.out.2.2.2]; exact HR9.out) HI.out.2.1 HI.out.2.2.1).mono ?_
          rintro e u10 ⟨v10, rfl, ho10, hb10⟩
          have K10 := K9.belowW hb10
          have q11' : u10.cell? ⟨u8.heap.size, 11, none⟩ = some (.slice A8 0 c8) := K10.cell.1 11
          have HB10 := Lib.hid (bthen HB9.out hb10)
          clear ho10 hb10
          go_wp2_with fail
          go_ret
          exact ⟨rfl, HB10.out⟩
        · refine (stake_some _ x s3 W12 HX.out hxl hk).mono ?_
          rintro e u8 ⟨v8, rfl, hr8, hb8⟩
          have HI := Lib.hid (show ShIn s3 ∧ s3.files.length ≤ 40 ∧ Pl.sheetOk s3 = true ∧ Pl.sealB (Pl.sheetB s3) = x from ⟨(take_in hk).1, (take_in hk).2, (Pl.takeS_some hk).1, (Pl.takeS_some hk).2.2⟩)
          obtain ⟨A8, c8, hv8, _, _⟩ := id hr8
          subst hv8
          have HR8 := Lib.hid hr8
          have HB8 := Lib.hid (bthen (HB12.out) hb8)
          have HX8 := Lib.hid (Rd.below HX.out hb8)
          clear hr8 hb8
          go_upto_region 15 with fail
          refine wp_at fun U9 hU9 => ?_
          have hb9 : Below u8.heap.size u8 U9 := by rw [← hU9]; exact below_alloc (Below.refl _ _) _
          have K9 : Blk U9 u8.heap.size (sheetC s3 (.slice A8 s3.files.length c8)) 38 := by rw [← hU9]; exact Blk.new _ _ _
          have HX9 := Lib.hid (Rd.below HX8.out hb9)
          have HR9 := Lib.hid (Rd.below HR8.out hb9)
          have HB9 := Lib.hid (bthen HB8.out hb9)
          clear hU9 hb9
          obtain ⟨q0, q1, q2, q3, q4, q5, q6, q7, q8, q9, q10⟩ := shAt_of K9
          have q11 : U9.cell? ⟨u8.heap.size, 11, none⟩ = some (.slice A8 s3.files.length c8) := K9.cell.1 11
          go_wp2_with fail
          refine (sput_ok s3 _ U9 HI.out.1 HR9.out HI.out.2.1 HI.out.2.2.1).mono ?_
          rintro e u10 ⟨v10, rfl, ho10, hb10⟩
          rw [HI.out.2.2.2] at ho10
          obtain ⟨A10, c10, hv10⟩ := Kd.N_slice ho10
          subst hv10
          have HB10 := Lib.hid (bthen HB9.out hb10)
          have t1 := byte_string ho10.rd
          have t2 := byte_string (Rd.below HX9.out hb10)
          clear ho10 hb10
          go_wp2_with fail
          go_ret
          exact ⟨rfl, HB10.out⟩
    · refine (stake_some _ y s2 w8 HVP.out HML.out hkm).mono ?_
      rintro e w11 ⟨v11, rfl, hr11, hb11⟩
      obtain ⟨A11, c11, hv11, _, _⟩ := id hr11
      subst hv11
      have HB11 := Lib.hid (bthen HB8.out hb11)
      have HV11 := Lib.hid (Rd.below HVP.out hb11)
      clear hr11 hb11
      go_wp2_with fail
      refine calls_at fun W12 hW12 => ?_
      have hb12 : Below w11.heap.size w11 W12 := by rw [← hW12]; exact below_alloc (Below.refl _ _) _
      have HB12 := Lib.hid (bthen HB11.out hb12)
      have HV12 := Lib.hid (Rd.below HV11.out hb12)
      clear hW12 hb12
      refine (stake_some _ y s2 W12 HV12.out HML.out hkm).mono ?_
      rintro e w13 ⟨v13, rfl, hr13, hb13⟩
      obtain ⟨A13, c13, hv13, _, _⟩ := id hr13
      subst hv13
      have HR13 := Lib.hid hr13
      have HB13 := Lib.hid (bthen HB12.out hb13)
      have HV13 := Lib.hid (Rd.below HV12.out hb13)
      clear hr13 hb13
      go_upto_region 10 with fail
      refine wp_at fun W14 hW14 => ?_
      have hb14 : Below w13.heap.size w13 W14 := by rw [← hW14]; exact below_alloc (Below.refl _ _) _
      have K14 : Blk W14 w13.heap.size (sheetC s2 (.slice A13 s2.files.length c13)) 38 := by rw [← hW14]; exact Blk.new _ _ _
      have HR14 := Lib.hid (Rd.below HR13.out hb14)
      have HB14 := Lib.hid (bthen HB13.out hb14)
      have HV14 := Lib.hid (Rd.below HV13.out hb14)
      clear hW14 hb14
      obtain ⟨q0, q1, q2, q3, q4, q5, q6, q7, q8, q9, q10⟩ := shAt_of K14
      have q11 : W14.cell? ⟨w13.heap.size, 11, none⟩ = some (.slice A13 s2.files.length c13) := K14.cell.1 11
      go_wp2_with fail
      refine (sput_ok s2 _ W14 (take_in hkm).1 HR14.out (take_in hkm).2 (Pl.takeS_some hkm).1).mono ?_
      rintro e w15 ⟨v15, rfl, ho15, hb15⟩
      rw [(Pl.takeS_some hkm).2.2] at ho15
      obtain ⟨A15, c15, hv15⟩ := Kd.N_slice ho15
      subst hv15
      have HB15 := Lib.hid (bthen HB14.out hb15)
      have t1 := byte_string (Rd.below HV14.out hb15)
      have t2 := byte_string ho15.rd
      have HKEEP := Lib.hid (show ∀ X, Below w15.heap.size w15 X → ((convert 27 9 (.slice A4 m c4)).run Tryd.prog X = .ok (.string ⟨y.toArray⟩) X ∧ (convert 27 9 (.slice A15 y.length c15)).run Tryd.prog X = .ok (.string ⟨y.toArray⟩) X) from fun X hX => ⟨byte_string (Rd.below (Rd.below HV14.out hb15) hX), byte_string (Rd.below ho15.rd hX)⟩)
      have hb0 : Below w15.heap.size w15 w15 := Below.refl _ _
      clear ho15 hb15 K14 q0 q1 q2 q3 q4 q5 q6 q7 q8 q9 q10 q11
      go_upto_region 11 with fail
      go_region_held3 (fun X => (convert 27 9 (.slice A4 m c4)).run Tryd.prog X = .ok (.string ⟨y.toArray⟩) X ∧ (convert 27 9 (.slice A15 y.length c15)).run Tryd.prog X = .ok (.string ⟨y.toArray⟩) X) (first | exact HKEEP.out _ hb0.drew | exact HKEEP.out _ hb0) (fail)
      go_upto_region 13 with fail
      refine wp_at fun W16 hW16 => ?_
      have HB16 := Lib.hid (show Below w.heap.size w W16 by rw [← hW16]; first | exact HB15.out | exact bthen HB15.out hb0.drew)
      clear hW16 t1 t2
      go_wp2_with fail
      all_goals rename_i hcase
      · obtain ⟨x, hx, hxl⟩ : ∃ x, Rd kb w (.slice Ab 1000 cb) x ∧ x.length ≤ 1048576 := by
          have h := HXV.out
          rw [show min b.length 1000 = 1000 by omega] at h
          exact ⟨_, Kd.V_mono h fun _ _ => trivial, by simp; omega⟩
        have HX := Lib.hid (Rd.below hx (HB16.out))
        clear hx
        rcases hk : Pl.takeS x with _ | s3
        · refine (stake_none _ x W16 HX.out hxl hk).mono ?_
          rintro e u8 ⟨v8, rfl, hr8, hb8⟩
          obtain ⟨s3, hs3⟩ : ∃ s3, Pl.zeroS = s3 := ⟨_, rfl⟩
          have HI := Lib.hid (show ShIn s3 ∧ s3.files.length ≤ 40 ∧ Pl.sheetOk s3 = false ∧ s3.files = [] by rw [← hs3]; exact ⟨zero_in, by simp [Pl.zeroS], zero_no, rfl⟩)
          rw [hs3]
          clear hs3
          obtain ⟨A8, c8, hv8, _, _⟩ := id hr8
          subst hv8
          have HR8 := Lib.hid hr8
          have HB8 := Lib.hid (bthen (HB16.out) hb8)
          have HX8 := Lib.hid (Rd.below HX.out hb8)
          clear hr8 hb8
          go_upto_region 15 with fail
          refine wp_at fun U9 hU9 => ?_
          have hb9 : Below u8.heap.size u8 U9 := by rw [← hU9]; exact below_alloc (Below.refl _ _) _
          have K9 : Blk U9 u8.heap.size (sheetC s3 (.slice A8 0 c8)) 38 := by rw [← hU9]; exact Blk.new _ _ _
          have HX9 := Lib.hid (Rd.below HX8.out hb9)
          have HR9 := Lib.hid (Rd.below HR8.out hb9)
          have HB9 := Lib.hid (bthen HB8.out hb9)
          clear hU9 hb9
          obtain ⟨q0, q1, q2, q3, q4, q5, q6, q7, q8, q9, q10⟩ := shAt_of K9
          have q11 : U9.cell? ⟨u8.heap.size, 11, none⟩ = some (.slice A8 0 c8) := K9.cell.1 11
          go_wp2_with fail
          refine (sput_no s3 _ U9 HI.out.1 (by rw [HI.out.2.2.2]; exact HR9.out) HI.out.2.1 HI.out.2.2.1).mono ?_
          rintro e u10 ⟨v10, rfl, ho10, hb10⟩
          have K10 := K9.belowW hb10
          have q11' : u10.cell? ⟨u8.heap.size, 11, none⟩ = some (.slice A8 0 c8) := K10.cell.1 11
          have HB10 := Lib.hid (bthen HB9.out hb10)
          clear ho10 hb10
          go_wp2_with fail
          go_ret
          exact ⟨rfl, HB10.out⟩
        · refine (stake_some _ x s3 W16 HX.out hxl hk).mono ?_
          rintro e u8 ⟨v8, rfl, hr8, hb8⟩
          have HI := Lib.hid (show ShIn s3 ∧ s3.files.length ≤ 40 ∧ Pl.sheetOk s3 = true ∧ Pl.sealB (Pl.sheetB s3) = x from ⟨(take_in hk).1, (take_in hk).2, (Pl.takeS_some hk).1, (Pl.takeS_some hk).2.2⟩)
          obtain ⟨A8, c8, hv8, _, _⟩ := id hr8
          subst hv8
          have HR8 := Lib.hid hr8
          have HB8 := Lib.hid (bthen (HB16.out) hb8)
          have HX8 := Lib.hid (Rd.below HX.out hb8)
          clear hr8 hb8
          go_upto_region 15 with fail
          refine wp_at fun U9 hU9 => ?_
          have hb9 : Below u8.heap.size u8 U9 := by rw [← hU9]; exact below_alloc (Below.refl _ _) _
          have K9 : Blk U9 u8.heap.size (sheetC s3 (.slice A8 s3.files.length c8)) 38 := by rw [← hU9]; exact Blk.new _ _ _
          have HX9 := Lib.hid (Rd.below HX8.out hb9)
          have HR9 := Lib.hid (Rd.below HR8.out hb9)
          have HB9 := Lib.hid (bthen HB8.out hb9)
          clear hU9 hb9
          obtain ⟨q0, q1, q2, q3, q4, q5, q6, q7, q8, q9, q10⟩ := shAt_of K9
          have q11 : U9.cell? ⟨u8.heap.size, 11, none⟩ = some (.slice A8 s3.files.length c8) := K9.cell.1 11
          go_wp2_with fail
          refine (sput_ok s3 _ U9 HI.out.1 HR9.out HI.out.2.1 HI.out.2.2.1).mono ?_
          rintro e u10 ⟨v10, rfl, ho10, hb10⟩
          rw [HI.out.2.2.2] at ho10
          obtain ⟨A10, c10, hv10⟩ := Kd.N_slice ho10
          subst hv10
          have HB10 := Lib.hid (bthen HB9.out hb10)
          have t1 := byte_string ho10.rd
          have t2 := byte_string (Rd.below HX9.out hb10)
          clear ho10 hb10
          go_wp2_with fail
          go_ret
          exact ⟨rfl, HB10.out⟩
      · obtain ⟨x, hx, hxl⟩ : ∃ x, Rd kb w (.slice Ab b.length cb) x ∧ x.length ≤ 1048576 := by
          have h := HXV.out
          rw [show min b.length 1000 = b.length by omega] at h
          exact ⟨_, Kd.V_mono h fun _ _ => trivial, by simp; omega⟩
        have HX := Lib.hid (Rd.below hx (HB16.out))
        clear hx
        rcases hk : Pl.takeS x with _ | s3
        · refine (stake_none _ x W16 HX.out hxl hk).mono ?_
          rintro e u8 ⟨v8, rfl, hr8, hb8⟩
          obtain ⟨s3, hs3⟩ : ∃ s3, Pl.zeroS = s3 := ⟨_, rfl⟩
          have HI := Lib.hid (show ShIn s3 ∧ s3.files.length ≤ 40 ∧ Pl.sheetOk s3 = false ∧ s3.files = [] by rw [← hs3]; exact ⟨zero_in, by simp [Pl.zeroS], zero_no, rfl⟩)
          rw [hs3]
          clear hs3
          obtain ⟨A8, c8, hv8, _, _⟩ := id hr8
          subst hv8
          have HR8 := Lib.hid hr8
          have HB8 := Lib.hid (bthen (HB16.out) hb8)
          have HX8 := Lib.hid (Rd.below HX.out hb8)
          clear hr8 hb8
          go_upto_region 15 with fail
          refine wp_at fun U9 hU9 => ?_
          have hb9 : Below u8.heap.size u8 U9 := by rw [← hU9]; exact below_alloc (Below.refl _ _) _
          have K9 : Blk U9 u8.heap.size (sheetC s3 (.slice A8 0 c8)) 38 := by rw [← hU9]; exact Blk.new _ _ _
          have HX9 := Lib.hid (Rd.below HX8.out hb9)
          have HR9 := Lib.hid (Rd.below HR8.out hb9)
          have HB9 := Lib.hid (bthen HB8.out hb9)
          clear hU9 hb9
          obtain ⟨q0, q1, q2, q3, q4, q5, q6, q7, q8, q9, q10⟩ := shAt_of K9
          have q11 : U9.cell? ⟨u8.heap.size, 11, none⟩ = some (.slice A8 0 c8) := K9.cell.1 11
          go_wp2_with fail
          refine (sput_no s3 _ U9 HI.out.1 (by rw [HI.out.2.2.2]; exact HR9.out) HI.out.2.1 HI.out.2.2.1).mono ?_
          rintro e u10 ⟨v10, rfl, ho10, hb10⟩
          have K10 := K9.belowW hb10
          have q11' : u10.cell? ⟨u8.heap.size, 11, none⟩ = some (.slice A8 0 c8) := K10.cell.1 11
          have HB10 := Lib.hid (bthen HB9.out hb10)
          clear ho10 hb10
          go_wp2_with fail
          go_ret
          exact ⟨rfl, HB10.out⟩
        · refine (stake_some _ x s3 W16 HX.out hxl hk).mono ?_
          rintro e u8 ⟨v8, rfl, hr8, hb8⟩
          have HI := Lib.hid (show ShIn s3 ∧ s3.files.length ≤ 40 ∧ Pl.sheetOk s3 = true ∧ Pl.sealB (Pl.sheetB s3) = x from ⟨(take_in hk).1, (take_in hk).2, (Pl.takeS_some hk).1, (Pl.takeS_some hk).2.2⟩)
          obtain ⟨A8, c8, hv8, _, _⟩ := id hr8
          subst hv8
          have HR8 := Lib.hid hr8
          have HB8 := Lib.hid (bthen (HB16.out) hb8)
          have HX8 := Lib.hid (Rd.below HX.out hb8)
          clear hr8 hb8
          go_upto_region 15 with fail
          refine wp_at fun U9 hU9 => ?_
          have hb9 : Below u8.heap.size u8 U9 := by rw [← hU9]; exact below_alloc (Below.refl _ _) _
          have K9 : Blk U9 u8.heap.size (sheetC s3 (.slice A8 s3.files.length c8)) 38 := by rw [← hU9]; exact Blk.new _ _ _
          have HX9 := Lib.hid (Rd.below HX8.out hb9)
          have HR9 := Lib.hid (Rd.below HR8.out hb9)
          have HB9 := Lib.hid (bthen HB8.out hb9)
          clear hU9 hb9
          obtain ⟨q0, q1, q2, q3, q4, q5, q6, q7, q8, q9, q10⟩ := shAt_of K9
          have q11 : U9.cell? ⟨u8.heap.size, 11, none⟩ = some (.slice A8 s3.files.length c8) := K9.cell.1 11
          go_wp2_with fail
          refine (sput_ok s3 _ U9 HI.out.1 HR9.out HI.out.2.1 HI.out.2.2.1).mono ?_
          rintro e u10 ⟨v10, rfl, ho10, hb10⟩
          rw [HI.out.2.2.2] at ho10
          obtain ⟨A10, c10, hv10⟩ := Kd.N_slice ho10
          subst hv10
          have HB10 := Lib.hid (bthen HB9.out hb10)
          have t1 := byte_string ho10.rd
          have t2 := byte_string (Rd.below HX9.out hb10)
          clear ho10 hb10
          go_wp2_with fail
          go_ret
          exact ⟨rfl, HB10.out⟩
end Go.Proofs.YtfppbkpdpapemaaDoor
