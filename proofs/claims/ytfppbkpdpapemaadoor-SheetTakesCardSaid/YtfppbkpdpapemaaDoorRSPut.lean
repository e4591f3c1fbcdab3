import Derived.Test.YtfppbkpdpapemaaDoorRRight20
/-! creelref20.Put. -/
set_option linter.unusedSimpArgs false
set_option linter.unusedVariables false
namespace Go.Proofs.YtfppbkpdpapemaaDoor
open Go.RowKit Go.Proofs.YtfppbkpdpapemaaDoorW.PrintWords Go.Proofs.YtfppbkpdpapemaaDoorW.PrintLast Go.Proofs.YtfppbkpdpapemaaDoorW.PrintMore
attribute [local go_sem] max2_int min2_int max_two min_two

set_option maxRecDepth 100000 in
set_option maxHeartbeats 4000000 in
theorem rsput_any (s : Pl.Sheet) (v : Value) (w : World) (hs : ShIn s) (hv : Rd kFile w v s.files) (hl : s.files.length ≤ 40) : Calls Tryd.prog 14 #[sheetV s v] w (PutS s w) := by
  have HV := Lib.hid hv
  obtain ⟨A, cc, rfl, hcc, _⟩ := hv
  go_enter Tryd.func14, Tryd.ntmps14
  go_wp2_with fail
  refine calls_at fun W1 hW1 => ?_
  have hb1 : Below w.heap.size w W1 := by rw [← hW1]; exact below_alloc (Below.refl _ _) _
  have K1 : Blk W1 w.heap.size (sheetC s (.slice A s.files.length cc)) 38 := by rw [← hW1]; exact Blk.new _ _ _
  clear hW1
  refine (rright20_any s (.slice A s.files.length cc) W1 hs (Rd.below HV.out hb1) hl).mono ?_
  rintro e w2 ⟨rfl, hb2⟩
  have K2 := K1.belowW hb2
  have HB2 := Lib.hid (bthen hb1 hb2)
  have HV2 := Lib.hid (Rd.below HV.out HB2.out)
  clear hb1 hb2 K1
  rcases hok : Pl.sheetOk s with _ | _
  · have HBAD := Lib.hid hok
    clear hok
    go_wp2_with fail
    go_ret2
    exact puts_no HBAD.out HB2.out
  · obtain ⟨hr, t2, t3, t4, t5, hfo⟩ := (Pl.sheetOk_iff s).1 hok
    have HOK := Lib.hid hok
    have hbd := Pl.right_bounds hr
    have lcf := confB_len s.c hbd
    obtain ⟨CF, hCF⟩ : ∃ L, Pl.confB s.c = L := ⟨_, rfl⟩
    rw [hCF] at lcf
    have lp1 := Pl.putB_len10 (n := s.lab.toNat) (by omega)
    have lp2 := Pl.putB_len10 (n := s.edg.toNat) (by omega)
    obtain ⟨L4, hL4⟩ : ∃ L, CF ++ Pl.putB s.lab.toNat = L := ⟨_, rfl⟩
    have l4 : L4.length ≤ 42 := by rw [← hL4]; simp; omega
    obtain ⟨L5, hL5⟩ : ∃ L, L4 ++ Pl.putB s.edg.toNat = L := ⟨_, rfl⟩
    have l5 : L5.length ≤ 52 := by rw [← hL5]; simp; omega
    have HE := Lib.hid (⟨hCF, hL4, hL5⟩ : Pl.confB s.c = CF ∧ CF ++ Pl.putB s.lab.toNat = L4 ∧ L4 ++ Pl.putB s.edg.toNat = L5)
    have HBD := Lib.hid hbd
    have HFO := Lib.hid hfo
    have hw1 : IntKind.u64.wrap s.lab = s.lab := IntWalk.u64_in _ (by omega)
    have hw2 : IntKind.u64.wrap s.edg = s.edg := IntWalk.u64_in _ (by omega)
    clear hok hr hCF hL4 hL5 lp1 lp2 hbd hfo
    obtain ⟨q0, q1, q2, q3, q4, q5, q6, q7, q8, _, _⟩ := shAt_of K2
    go_wp2_with fail
    refine (rconfig20_any s.c _ hs.c (by have := HBD.out; omega) (by have := HBD.out; omega) (by have := HBD.out; omega)).mono ?_
    rintro e w3 ⟨v3, rfl, ho3, hb3⟩
    rw [HE.out.1] at ho3
    obtain ⟨A3, c3, hv3⟩ := Kd.N_slice ho3
    subst hv3
    have K3 := K2.belowW hb3
    have p9 := K3.cell.1 9
    clear q0 q1 q2 q3 q4 q5 q6 q7 q8 K2
    go_wp2_with fail
    refine (rput_int _ CF s.lab _ ho3.rd (by omega) (by omega) (by omega)).mono ?_
    rintro e w4 ⟨v4, rfl, ho4, hb4⟩
    rw [HE.out.2.1] at ho4
    obtain ⟨A4, c4, hv4⟩ := Kd.N_slice ho4
    subst hv4
    have K4 := K3.belowW hb4
    have p10 := K4.cell.1 10
    clear p9 K3
    go_wp2_with fail
    refine (rput_int _ L4 s.edg _ ho4.rd (by omega) (by omega) (by omega)).mono ?_
    rintro e w5 ⟨v5, rfl, ho5, hb5⟩
    rw [HE.out.2.2] at ho5
    have hb24 := bthen hb3 hb4
    have hb25 := bthen hb24 hb5
    have hs24 := hb24.size
    obtain ⟨A5, c5, hv5⟩ := Kd.N_slice ho5
    subst hv5
    have HO5 := Lib.hid (ho5.lower hs24)
    have HB5 := Lib.hid hb25
    have K5 := K4.belowW hb5
    have HQ11 := Lib.hid (K5.cell.1 11)
    have hszf := Kd.F_max (Kd.V_at HV2.out).2.2
    have HVF := Lib.hid (Kd.V_at HV2.out).2.2
    have hs25 := hb25.size
    have hlX := World.block_lt_of_cell? _ _ HQ11.out
    have hwW := HB2.out.size
    clear ho3 hb3 ho4 hb4 ho5 hb5 hb24 hb25 hs24 HV2 K4 p10
    have HK5 := Lib.hid K5
    clear K5
    go_wp2_with fail
    go_loopw [4, 5] (fun v i wr => ∃ k : Nat, i = .int .i64 (k : Int) ∧ Aside0 (k ≤ s.files.length) ∧ Aside0 (Own kb 5 wr w2.heap.size v (L5 ++ (s.files.take k).flatMap Pl.fileB)) ∧ Aside0 (Below w2.heap.size w2 wr) ∧ Aside0 (wr.cell? ⟨w.heap.size, 11, none⟩ = some (.slice A s.files.length cc))) (fun _ i _ => s.files.length - (intOf i).toNat)
    case atStart => exact ⟨0, rfl, ⟨by omega⟩, ⟨by simpa using HO5.out⟩, ⟨HB5.out⟩, ⟨HQ11.out⟩⟩
    case round =>
      obtain ⟨k, rfl, hk, HO, HB, HQ⟩ := hrel
      obtain ⟨M, hM⟩ : ∃ M, L5 ++ (s.files.take k).flatMap Pl.fileB = M := ⟨_, rfl⟩
      have hMl : M.length ≤ 1000 := by
        rw [← hM, List.length_append]
        have := Pl.flatB_len (s.files.take k) (fun f hf => by have := hs.f f (List.mem_of_mem_take hf); omega)
        simp only [List.length_take] at this
        omega
      have HMM := Lib.hid hM
      rw [hM] at HO
      clear hM
      obtain ⟨Ao, co, hvo⟩ := Kd.N_slice HO.out
      subst hvo
      have hq := HQ.out
      have hlq := World.block_lt_of_cell? _ _ hq
      have hsz2 := HB.out.size
      by_cases hlt : k < s.files.length
      · obtain ⟨⟨fn, fl, fsm⟩, hf⟩ : ∃ f, s.files[k]? = some f := ⟨_, List.getElem?_eq_getElem hlt⟩
        obtain ⟨m, hm⟩ : ∃ m, (Pl.names s.c)[k]? = some m := ⟨_, List.getElem?_eq_getElem (by have := Pl.filesOk_len _ _ HFO.out; omega)⟩
        have hfok := Pl.filesOk_at _ _ HFO.out k _ _ hf hm
        have hfl0 : 0 ≤ fl := by simp [Pl.fileOk] at hfok; omega
        have hfl1 : fl ≤ 4611686018427387904 := by simp [Pl.fileOk] at hfok; omega
        obtain ⟨ad, hAa, y0, y1, y2⟩ := file_get HVF.out k _ hf
        subst hAa
        have hlA := World.block_lt_of_cell? _ _ y0
        have x1 := (HB.out.cell (p := ⟨(ad.add (k * 3)).block, (ad.add (k * 3)).off + 1, none⟩) hlA).trans y1
        obtain ⟨g1, g2, g3, g4⟩ := hs.f _ (List.mem_of_getElem? hf)
        simp only at g1 g2 g3 g4 x1 y2
        have q1 : (0 : Int) ≤ (k : Int) := by omega
        have q2 : (k : Int) < (s.files.length : Int) := by omega
        have hdk : decide ((k : Int) < (s.files.length : Int)) = true := by simp; omega
        have w1 : IntKind.u64.wrap fl = fl := IntWalk.u64_in _ (by omega)
        have w2' : IntKind.u64.wrap fsm = fsm := IntWalk.u64_in _ (by omega)
        have lp := Pl.putB_len10 (n := fl.toNat) (by omega)
        obtain ⟨L6, hL6⟩ : ∃ L, M ++ Pl.putB fl.toNat = L := ⟨_, rfl⟩
        have l6 : L6.length ≤ 1010 := by rw [← hL6]; simp; omega
        have HE6 := Lib.hid hL6
        have HF := Lib.hid hf
        have HY2 := Lib.hid y2
        clear hL6 lp hm hfok hf y0 y1 y2
        go_wp2_with fail
        refine (rput_int _ M fl _ HO.out.rd (by omega) (by omega) (by omega)).mono ?_
        rintro e w6 ⟨v6, rfl, ho6, hb6⟩
        rw [HE6.out] at ho6
        obtain ⟨A6, c6, hv6⟩ := Kd.N_slice ho6
        subst hv6
        have hb26 := bthen HB.out hb6
        have x2 := (hb26.cell (p := ⟨(ad.add (k * 3)).block, (ad.add (k * 3)).off + 2, none⟩) hlA).trans HY2.out
        have hq6 := (hb6.cell (p := ⟨w.heap.size, 11, none⟩) hlq).trans hq
        have hlq6 := World.block_lt_of_cell? _ _ hq6
        clear x1 hq
        go_wp2_with fail
        refine (rfix_int _ L6 fsm _ ho6.rd g3 (by omega) (by omega)).mono ?_
        rintro e w7 ⟨v7, rfl, ho7, hb7⟩
        have HB7 := Lib.hid (bthen hb26 hb7)
        have HO7 := Lib.hid (ho7.lower hb26.size)
        have HQ7 := Lib.hid ((hb7.cell (p := ⟨w.heap.size, 11, none⟩) hlq6).trans hq6)
        have HS := Lib.hid (show L5 ++ (s.files.take (k + 1)).flatMap Pl.fileB = L6 ++ Pl.fixB 4 fsm.toNat by
          have e : s.files.take (k + 1) = s.files.take k ++ [(fn, fl, fsm)] := by rw [List.take_add_one, HF.out]; rfl
          rw [e, List.flatMap_append, ← List.append_assoc, HMM.out, ← HE6.out]
          simp [Pl.fileB])
        clear ho6 hb6 ho7 hb7 hb26 x2 hq6
        go_wp2_with fail
        go_roundw
        case rel => exact ⟨k + 1, by go_num, ⟨by omega⟩, ⟨by rw [HS.out]; exact HO7.out⟩, ⟨HB7.out⟩, ⟨HQ7.out⟩⟩
        case measure => simp [intOf]; omega
      · obtain rfl : k = s.files.length := by have := hk.out; omega
        have hdk : decide ((s.files.length : Int) < (s.files.length : Int)) = false := by simp
        go_wp2_with fail
        refine (rseal_any _ M _ HO.out.rd (by omega)).mono ?_
        rintro e w9 ⟨v9, rfl, ho9, hb9⟩
        have HSB := Lib.hid (show Pl.sheetB s = M by
          rw [Pl.sheetB, HE.out.1, HE.out.2.1, HE.out.2.2, ← HMM.out, List.take_of_length_le (Nat.le_refl _)])
        have HO9 := Lib.hid (ho9.lower (b := w.heap.size) (Nat.le_trans HB2.out.size hsz2))
        have HB9 := Lib.hid (bthen (bthen HB2.out HB.out) hb9)
        clear ho9 hb9 hdk
        go_wp2_with fail
        go_ret2
        refine ⟨_, by rw [HOK.out]; rfl, ?_, HB9.out⟩
        rw [HOK.out, HSB.out]
        exact HO9.out
end Go.Proofs.YtfppbkpdpapemaaDoor
