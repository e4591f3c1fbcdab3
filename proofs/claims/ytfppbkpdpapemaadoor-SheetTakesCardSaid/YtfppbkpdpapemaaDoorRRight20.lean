import Derived.Test.YtfppbkpdpapemaaDoorSPut
import Derived.Test.YtfppbkpdpapemaaDoorRNames
/-! creelref20.right. -/
set_option linter.unusedSimpArgs false
set_option linter.unusedVariables false
namespace Go.Proofs.YtfppbkpdpapemaaDoor
open Go.RowKit Go.Proofs.YtfppbkpdpapemaaDoorW.PrintWords Go.Proofs.YtfppbkpdpapemaaDoorW.PrintLast Go.Proofs.YtfppbkpdpapemaaDoorW.PrintMore
attribute [local go_sem] max2_int min2_int max_two min_two

set_option maxRecDepth 100000 in
set_option maxHeartbeats 4000000 in
theorem rright20_any (s : Pl.Sheet) (v : Value) (w : World) (hs : ShIn s) (hv : Rd kFile w v s.files) (hl : s.files.length ≤ 40) : Calls Tryd.prog 27 #[sheetV s v] w fun e w' => e = .returned (.bool (Pl.sheetOk s)) ∧ Below w.heap.size w w' := by
  have HV := Lib.hid hv
  obtain ⟨A, cc, rfl, hcc, _⟩ := hv
  go_enter Tryd.func27, Tryd.ntmps27
  go_wp2_with fail
  refine calls_at fun W1 hW1 => ?_
  have hb1 : Below w.heap.size w W1 := by rw [← hW1]; exact below_alloc (Below.refl _ _) _
  have K1 : Blk W1 w.heap.size (sheetC s (.slice A s.files.length cc)) 38 := by rw [← hW1]; exact Blk.new _ _ _
  clear hW1
  refine (rnames20_any s.c W1).mono ?_
  rintro e w2 ⟨v2, rfl, ho2, hb2⟩
  obtain ⟨ns, hns⟩ : ∃ ns, Pl.names s.c = ns := ⟨_, rfl⟩
  rw [hns] at ho2
  have HNS := Lib.hid hns
  obtain ⟨A2, c2, hv2⟩ := Kd.N_slice ho2
  subst hv2
  have K2 := K1.belowW hb2
  have HB2 := Lib.hid (bthen hb1 hb2)
  have HV2 := Lib.hid (Rd.below HV.out HB2.out)
  have HO2 := Lib.hid ho2.rd
  have HK2 := Lib.hid K2
  clear hb1 hb2 K1 ho2 hns
  obtain ⟨q9, q10, q11⟩ : w2.cell? ⟨w.heap.size, 9, none⟩ = some (.int .i64 s.lab) ∧ w2.cell? ⟨w.heap.size, 10, none⟩ = some (.int .i64 s.edg) ∧ w2.cell? ⟨w.heap.size, 11, none⟩ = some (.slice A s.files.length cc) := ⟨K2.cell.1 9, K2.cell.1 10, K2.cell.1 11⟩
  clear K2
  rcases hr : Pl.right s.c with _ | _
  · have hn0 : ns.length = 0 := by rw [← HNS.out, Pl.names_wrong hr]; rfl
    have HBAD := Lib.hid (Pl.sheetOk_false (s := s) (by rintro ⟨h, _⟩; rw [hr] at h; cases h))
    clear hr
    go_wp2_with fail
    go_ret
    exact ⟨by rw [HBAD.out]; rfl, HB2.out⟩
  · have hnl := names_len hr
    rw [HNS.out] at hnl
    obtain ⟨hnl1, hnl2⟩ := hnl
    have hd : ((ns.length : Int) == 0) = false := by rw [beq_eq_false_iff_ne]; omega
    by_cases t2 : 0 ≤ s.lab
    · have dt2 : decide (s.lab < 0) = false := by simp; omega
      by_cases t3 : s.lab ≤ 4294967296
      · have dt3 : decide ((4294967296 : Int) < s.lab) = false := by simp; omega
        by_cases t4 : 0 ≤ s.edg
        · have dt4 : decide (s.edg < 0) = false := by simp; omega
          by_cases t5 : s.edg ≤ 4611686018427387904
          · have dt5 : decide ((4611686018427387904 : Int) < s.edg) = false := by simp; omega
            by_cases t1 : s.files.length = ns.length
            · have dt1 : ((s.files.length : Int) != (ns.length : Int)) = false := by rw [t1]; simp
              have HR := Lib.hid hr
              have HT := Lib.hid (⟨t1, t2, t3, t4, t5⟩ : s.files.length = ns.length ∧ 0 ≤ s.lab ∧ s.lab ≤ 4294967296 ∧ 0 ≤ s.edg ∧ s.edg ≤ 4611686018427387904)
              have hmx := t1
              clear hr
              go_wp2_with fail
              have hszf := Kd.F_max (Kd.V_at HV2.out).2.2
              obtain ⟨fs, hfs⟩ : ∃ fs, s.files = fs := ⟨_, rfl⟩
              have HFS := Lib.hid hfs
              have hfl : fs.length = ns.length := by rw [← hfs]; exact t1
              have HVF := Lib.hid (show Kd.F kFile w2 (fun _ => True) A fs.length fs by have := (Kd.V_at HV2.out).2.2; rw [hfs] at this; exact this)
              have HVN := Lib.hid (Kd.V_at HO2.out).2.2
              have HFL := Lib.hid hfl
              have HQ11 := Lib.hid q11
              clear hfs t1 dt1 t2 dt2 t3 dt3 t4 dt4 t5 dt5 hfl HV2 HO2 hd hnl1 hmx q9 q10 q11
              go_loopw [4] (fun i wr => ∃ k : Nat, i = .int .i64 (k : Int) ∧ Aside0 (k ≤ ns.length) ∧ Aside0 (∀ j f n, j < k → fs[j]? = some f → ns[j]? = some n → Pl.fileOk f n = true) ∧ Aside0 (Below w2.heap.size w2 wr)) (fun i _ => ns.length - (intOf i).toNat)
              case atStart => exact ⟨0, rfl, ⟨by omega⟩, ⟨fun j f n h => by omega⟩, ⟨Below.refl _ _⟩⟩
              case round =>
                obtain ⟨k, rfl, hk, HOK, HB⟩ := hrel
                by_cases hlt : k < ns.length
                · obtain ⟨⟨fn, fl, fsm⟩, hf⟩ : ∃ f, fs[k]? = some f := ⟨_, List.getElem?_eq_getElem (by have := HFL.out; omega)⟩
                  obtain ⟨m, hm⟩ : ∃ m, ns[k]? = some m := ⟨_, List.getElem?_eq_getElem hlt⟩
                  obtain ⟨ad, hAa, y0, y1, y2⟩ := file_get HVF.out k _ hf
                  obtain ⟨bd, hAb, z0⟩ := kStr_cell HVN.out k m hm
                  subst hAa hAb
                  have hlA := World.block_lt_of_cell? _ _ y0
                  have hlB := World.block_lt_of_cell? _ _ z0
                  have hlX := World.block_lt_of_cell? _ _ HQ11.out
                  have hbd := HB.out.drew
                  have HX := Lib.hid (⟨(hbd.cell (p := ⟨w.heap.size, 11, none⟩) hlX).trans HQ11.out, (hbd.cell (p := ad.add (k * 3)) hlA).trans y0, (hbd.cell (p := ⟨(ad.add (k * 3)).block, (ad.add (k * 3)).off + 1, none⟩) hlA).trans y1, (hbd.cell (p := bd.add k) hlB).trans z0⟩ : wr.drew.cell? ⟨w.heap.size, 11, none⟩ = some (.slice (some ad) s.files.length cc) ∧ wr.drew.cell? (ad.add (k * 3)) = some (strV fn) ∧ wr.drew.cell? ⟨(ad.add (k * 3)).block, (ad.add (k * 3)).off + 1, none⟩ = some (.int .i64 fl) ∧ wr.drew.cell? (bd.add k) = some (strV m))
                  have HBB := Lib.hid (bthen HB2.out hbd)
                  have HBD := Lib.hid hbd
                  have q1 : (0 : Int) ≤ (k : Int) := by omega
                  have q2 : (k : Int) < (ns.length : Int) := by omega
                  have q3 : (k : Int) < (s.files.length : Int) := by have := HT.out.1; omega
                  have HF := Lib.hid hf
                  have HM := Lib.hid hm
                  have HBADF := Lib.hid (fun (hb : Pl.fileOk (fn, fl, fsm) m = false) => Pl.sheetOk_false (s := s) (fun h => by
                    have := Pl.filesOk_at s.files (Pl.names s.c) h.2.2.2.2.2 k (fn, fl, fsm) m (by rw [HFS.out]; exact HF.out) (by rw [HNS.out]; exact HM.out)
                    rw [hb] at this
                    cases this))
                  have hdk : decide ((k : Int) < (ns.length : Int)) = true := by simp; omega
                  clear y0 y1 y2 z0 hf hm hbd
                  go_upto_region 7 with fail
                  clear hdk
                  by_cases hn : fn = m
                  · subst hn
                    have dn : (!(fn == fn)) = false := by simp
                    by_cases h0 : fl < 0
                    · have d0 : decide (fl < 0) = true := by simp; omega
                      refine wp_region_noPanic ?_
                      refine wp_region_held_drew (S := (fun W => W.cell? ⟨w.heap.size, 11, none⟩ = some (.slice (some ad) s.files.length cc) ∧ W.cell? (ad.add (k * 3)) = some (strV fn) ∧ W.cell? ⟨(ad.add (k * 3)).block, (ad.add (k * 3)).off + 1, none⟩ = some (.int .i64 fl) ∧ W.cell? (bd.add k) = some (strV fn))) (by kernel_rfl) ?_ (fun hHeld => ?_)
                      · first | exact trivial | ((try dsimp only); exact HX.out)
                      refine wpAnyH_take (i := 0) (oi := ?oib0) (v := ?vb0) ?hib0 (by kernel_rfl) (by kernel_rfl) (by kernel_rfl) (fun _ _ _ h => h) (Or.inl ⟨?wtb0, ?hyb0⟩) (by assumption) ?restb0
                      case hib0 => (simp only [List.getElem?_toArray, List.getElem?_cons_succ, List.getElem?_cons_zero]; rfl)
                      case wtb0 => rfl
                      case hyb0 => (intro w hSw; (try dsimp only at hSw); go_simp) <;> (first | done | with_reducible rfl)
                      (try simp only [Act.put, List.setIfInBounds_toArray, List.set_cons_zero, List.set_cons_succ])
                      refine wpAnyH_take (i := 1) (oi := ?oib1) (v := ?vb1) ?hib1 (by kernel_rfl) (by kernel_rfl) (by kernel_rfl) (fun _ _ _ h => h) (Or.inl ⟨?wtb1, ?hyb1⟩) (by assumption) ?restb1
                      case hib1 => (simp only [List.getElem?_toArray, List.getElem?_cons_succ, List.getElem?_cons_zero]; rfl)
                      case wtb1 => rfl
                      case hyb1 => (intro w hSw; (try dsimp only at hSw); go_simp) <;> (first | done | with_reducible rfl)
                      (try simp only [Act.put, List.setIfInBounds_toArray, List.set_cons_zero, List.set_cons_succ])
                      refine wpAnyH_take (i := 2) (oi := ?oib2) (v := ?vb2) ?hib2 (by kernel_rfl) (by kernel_rfl) (by kernel_rfl) (fun _ _ _ h => h) (Or.inl ⟨?wtb2, ?hyb2⟩) (by assumption) ?restb2
                      case hib2 => (simp only [List.getElem?_toArray, List.getElem?_cons_succ, List.getElem?_cons_zero]; rfl)
                      case wtb2 => rfl
                      case hyb2 => (intro w hSw; (try dsimp only at hSw); go_simp) <;> (first | done | with_reducible rfl)
                      (try simp only [Act.put, List.setIfInBounds_toArray, List.set_cons_zero, List.set_cons_succ])
                      refine wpAnyH_take (i := 3) (oi := ?oib3) (v := ?vb3) ?hib3 (by kernel_rfl) (by kernel_rfl) (by kernel_rfl) (fun _ _ _ h => h) (Or.inl ⟨?wtb3, ?hyb3⟩) (by assumption) ?restb3
                      case hib3 => (simp only [List.getElem?_toArray, List.getElem?_cons_succ, List.getElem?_cons_zero]; rfl)
                      case wtb3 => rfl
                      case hyb3 => (intro w hSw; (try dsimp only at hSw); go_simp) <;> (first | done | with_reducible rfl)
                      (try simp only [Act.put, List.setIfInBounds_toArray, List.set_cons_zero, List.set_cons_succ])
                      refine wpAnyH_take (i := 4) (oi := ?oib4) (v := ?vb4) ?hib4 (by kernel_rfl) (by kernel_rfl) (by kernel_rfl) (fun _ _ _ h => h) (Or.inl ⟨?wtb4, ?hyb4⟩) (by assumption) ?restb4
                      case hib4 => (simp only [List.getElem?_toArray, List.getElem?_cons_succ, List.getElem?_cons_zero]; rfl)
                      case wtb4 => rfl
                      case hyb4 => (intro w hSw; (try dsimp only at hSw); go_simp) <;> (first | done | with_reducible rfl)
                      (try simp only [Act.put, List.setIfInBounds_toArray, List.set_cons_zero, List.set_cons_succ])
                      refine wpAnyH_take (i := 5) (oi := ?oib5) (v := ?vb5) ?hib5 (by kernel_rfl) (by kernel_rfl) (by kernel_rfl) (fun _ _ _ h => h) (Or.inl ⟨?wtb5, ?hyb5⟩) (by assumption) ?restb5
                      case hib5 => (simp only [List.getElem?_toArray, List.getElem?_cons_succ, List.getElem?_cons_zero]; rfl)
                      case wtb5 => rfl
                      case hyb5 => (intro w hSw; (try dsimp only at hSw); go_simp) <;> (first | done | with_reducible rfl)
                      (try simp only [Act.put, List.setIfInBounds_toArray, List.set_cons_zero, List.set_cons_succ])
                      refine wpAnyH_take (i := 6) (oi := ?oib6) (v := ?vb6) ?hib6 (by kernel_rfl) (by kernel_rfl) (by kernel_rfl) (fun _ _ _ h => h) (Or.inl ⟨?wtb6, ?hyb6⟩) (by assumption) ?restb6
                      case hib6 => (simp only [List.getElem?_toArray, List.getElem?_cons_succ, List.getElem?_cons_zero]; rfl)
                      case wtb6 => rfl
                      case hyb6 => (intro w hSw; (try dsimp only at hSw); go_simp) <;> (first | done | with_reducible rfl)
                      (try simp only [Act.put, List.setIfInBounds_toArray, List.set_cons_zero, List.set_cons_succ])
                      refine wpAnyH_take (i := 7) (oi := ?oib7) (v := ?vb7) ?hib7 (by kernel_rfl) (by kernel_rfl) (by kernel_rfl) (fun _ _ _ h => h) (Or.inl ⟨?wtb7, ?hyb7⟩) (by assumption) ?restb7
                      case hib7 => (simp only [List.getElem?_toArray, List.getElem?_cons_succ, List.getElem?_cons_zero]; rfl)
                      case wtb7 => rfl
                      case hyb7 => (intro w hSw; (try dsimp only at hSw); go_simp) <;> (first | done | with_reducible rfl)
                      (try simp only [Act.put, List.setIfInBounds_toArray, List.set_cons_zero, List.set_cons_succ])
                      refine wpAnyH_take (i := 8) (oi := ?oib8) (v := ?vb8) ?hib8 (by kernel_rfl) (by kernel_rfl) (by kernel_rfl) (fun _ _ _ h => h) (Or.inl ⟨?wtb8, ?hyb8⟩) (by assumption) ?restb8
                      case hib8 => (simp only [List.getElem?_toArray, List.getElem?_cons_succ, List.getElem?_cons_zero]; rfl)
                      case wtb8 => rfl
                      case hyb8 => (intro w hSw; (try dsimp only at hSw); go_simp) <;> (first | done | with_reducible rfl)
                      (try simp only [Act.put, List.setIfInBounds_toArray, List.set_cons_zero, List.set_cons_succ])
                      refine wpAnyH_take (i := 9) (oi := ?oib9) (v := ?vb9) ?hib9 (by kernel_rfl) (by kernel_rfl) (by kernel_rfl) (fun _ _ _ h => h) (Or.inl ⟨?wtb9, ?hyb9⟩) (by assumption) ?restb9
                      case hib9 => (simp only [List.getElem?_toArray, List.getElem?_cons_succ, List.getElem?_cons_zero]; rfl)
                      case wtb9 => rfl
                      case hyb9 => (intro w hSw; (try dsimp only at hSw); go_simp) <;> (first | done | with_reducible rfl)
                      (try simp only [Act.put, List.setIfInBounds_toArray, List.set_cons_zero, List.set_cons_succ])
                      refine wpAnyH_take (i := 10) (oi := ?oib10) (v := ?vb10) ?hib10 (by kernel_rfl) (by kernel_rfl) (by kernel_rfl) (fun _ _ _ h => h) (Or.inl ⟨?wtb10, ?hyb10⟩) (by assumption) ?restb10
                      case hib10 => (simp only [List.getElem?_toArray, List.getElem?_cons_succ, List.getElem?_cons_zero]; rfl)
                      case wtb10 => rfl
                      case hyb10 => (intro w hSw; (try dsimp only at hSw); go_simp) <;> (first | done | with_reducible rfl)
                      (try simp only [Act.put, List.setIfInBounds_toArray, List.set_cons_zero, List.set_cons_succ])
                      refine wpAnyH_take (i := 11) (oi := ?oib11) (v := ?vb11) ?hib11 (by kernel_rfl) (by kernel_rfl) (by kernel_rfl) (fun _ _ _ h => h) (Or.inl ⟨?wtb11, ?hyb11⟩) (by assumption) ?restb11
                      case hib11 => (simp only [List.getElem?_toArray, List.getElem?_cons_succ, List.getElem?_cons_zero]; rfl)
                      case wtb11 => rfl
                      case hyb11 => (intro w hSw; (try dsimp only at hSw); go_simp) <;> (first | done | with_reducible rfl)
                      (try simp only [Act.put, List.setIfInBounds_toArray, List.set_cons_zero, List.set_cons_succ])
                      refine wpAnyH_take (i := 12) (oi := ?oib12) (v := ?vb12) ?hib12 (by kernel_rfl) (by kernel_rfl) (by kernel_rfl) (fun _ _ _ h => h) (Or.inl ⟨?wtb12, ?hyb12⟩) (by assumption) ?restb12
                      case hib12 => (simp only [List.getElem?_toArray, List.getElem?_cons_succ, List.getElem?_cons_zero]; rfl)
                      case wtb12 => rfl
                      case hyb12 => (intro w hSw; (try dsimp only at hSw); go_simp) <;> (first | done | with_reducible rfl)
                      (try simp only [Act.put, List.setIfInBounds_toArray, List.set_cons_zero, List.set_cons_succ])
                      refine wpAnyH_take (i := 13) (oi := ?oib13) (v := ?vb13) ?hib13 (by kernel_rfl) (by kernel_rfl) (by kernel_rfl) (fun _ _ _ h => h) (Or.inl ⟨?wtb13, ?hyb13⟩) (by assumption) ?restb13
                      case hib13 => (simp only [List.getElem?_toArray, List.getElem?_cons_succ, List.getElem?_cons_zero]; rfl)
                      case wtb13 => rfl
                      case hyb13 => (intro w hSw; (try dsimp only at hSw); go_simp) <;> (first | done | with_reducible rfl)
                      (try simp only [Act.put, List.setIfInBounds_toArray, List.set_cons_zero, List.set_cons_succ])
                      refine wpAnyH_take (i := 14) (oi := ?oib14) (v := ?vb14) ?hib14 (by kernel_rfl) (by kernel_rfl) (by kernel_rfl) (fun _ _ _ h => h) (Or.inl ⟨?wtb14, ?hyb14⟩) (by assumption) ?restb14
                      case hib14 => (simp only [List.getElem?_toArray, List.getElem?_cons_succ, List.getElem?_cons_zero]; rfl)
                      case wtb14 => rfl
                      case hyb14 => (intro w hSw; (try dsimp only at hSw); go_simp) <;> (first | done | with_reducible rfl)
                      (try simp only [Act.put, List.setIfInBounds_toArray, List.set_cons_zero, List.set_cons_succ])
                      refine wpAnyH_take (i := 15) (oi := ?oib15) (v := ?vb15) ?hib15 (by kernel_rfl) (by kernel_rfl) (by kernel_rfl) (fun _ _ _ h => h) (Or.inl ⟨?wtb15, ?hyb15⟩) (by assumption) ?restb15
                      case hib15 => (simp only [List.getElem?_toArray, List.getElem?_cons_succ, List.getElem?_cons_zero]; rfl)
                      case wtb15 => rfl
                      case hyb15 => (intro w hSw; (try dsimp only at hSw); go_simp) <;> (first | done | with_reducible rfl)
                      (try simp only [Act.put, List.setIfInBounds_toArray, List.set_cons_zero, List.set_cons_succ])
                      refine wpAnyH_take (i := 16) (oi := ?oib16) (v := ?vb16) ?hib16 (by kernel_rfl) (by kernel_rfl) (by kernel_rfl) (fun _ _ _ h => h) (Or.inl ⟨?wtb16, ?hyb16⟩) (by assumption) ?restb16
                      case hib16 => (simp only [List.getElem?_toArray, List.getElem?_cons_succ, List.getElem?_cons_zero]; rfl)
                      case wtb16 => rfl
                      case hyb16 => (intro w hSw; (try dsimp only at hSw); go_simp) <;> (first | done | with_reducible rfl)
                      (try simp only [Act.put, List.setIfInBounds_toArray, List.set_cons_zero, List.set_cons_succ])
                      refine wpAnyH_take (i := 17) (oi := ?oib17) (v := ?vb17) ?hib17 (by kernel_rfl) (by kernel_rfl) (by kernel_rfl) (fun _ _ _ h => h) (Or.inl ⟨?wtb17, ?hyb17⟩) (by assumption) ?restb17
                      case hib17 => (simp only [List.getElem?_toArray, List.getElem?_cons_succ, List.getElem?_cons_zero]; rfl)
                      case wtb17 => rfl
                      case hyb17 => (intro w hSw; (try dsimp only at hSw); go_simp) <;> (first | done | with_reducible rfl)
                      (try simp only [Act.put, List.setIfInBounds_toArray, List.set_cons_zero, List.set_cons_succ])
                      refine wpAnyH_take (i := 18) (oi := ?oib18) (v := ?vb18) ?hib18 (by kernel_rfl) (by kernel_rfl) (by kernel_rfl) (fun _ _ _ h => h) (Or.inl ⟨?wtb18, ?hyb18⟩) (by assumption) ?restb18
                      case hib18 => (simp only [List.getElem?_toArray, List.getElem?_cons_succ, List.getElem?_cons_zero]; rfl)
                      case wtb18 => rfl
                      case hyb18 => (intro w hSw; (try dsimp only at hSw); go_simp) <;> (first | done | with_reducible rfl)
                      (try simp only [Act.put, List.setIfInBounds_toArray, List.set_cons_zero, List.set_cons_succ])
                      refine wpAnyH_take (i := 19) (oi := ?oib19) (v := ?vb19) ?hib19 (by kernel_rfl) (by kernel_rfl) (by kernel_rfl) (fun _ _ _ h => h) (Or.inl ⟨?wtb19, ?hyb19⟩) (by assumption) ?restb19
                      case hib19 => (simp only [List.getElem?_toArray, List.getElem?_cons_succ, List.getElem?_cons_zero]; rfl)
                      case wtb19 => rfl
                      case hyb19 => (intro w hSw; (try dsimp only at hSw); go_simp) <;> (first | done | with_reducible rfl)
                      (try simp only [Act.put, List.setIfInBounds_toArray, List.set_cons_zero, List.set_cons_succ])
                      refine wpAnyH_take (i := 20) (oi := ?oib20) (v := ?vb20) ?hib20 (by kernel_rfl) (by kernel_rfl) (by kernel_rfl) (fun _ _ _ h => h) (Or.inl ⟨?wtb20, ?hyb20⟩) (by assumption) ?restb20
                      case hib20 => (simp only [List.getElem?_toArray, List.getElem?_cons_succ, List.getElem?_cons_zero]; rfl)
                      case wtb20 => rfl
                      case hyb20 => (intro w hSw; (try dsimp only at hSw); go_simp) <;> (first | done | with_reducible rfl)
                      (try simp only [Act.put, List.setIfInBounds_toArray, List.set_cons_zero, List.set_cons_succ])
                      refine wpAnyH_take (i := 21) (oi := ?oib21) (v := undef) ?hib21 (by kernel_rfl) (by kernel_rfl) (by kernel_rfl) (fun _ _ _ h => h) (Or.inr ⟨?wtb21, rfl⟩) (by assumption) ?restb21
                      case hib21 => (simp only [List.getElem?_toArray, List.getElem?_cons_succ, List.getElem?_cons_zero]; rfl)
                      case wtb21 => rfl
                      (try simp only [Act.put, List.setIfInBounds_toArray, List.set_cons_zero, List.set_cons_succ])
                      refine wpAnyH_take (i := 22) (oi := ?oib22) (v := undef) ?hib22 (by kernel_rfl) (by kernel_rfl) (by kernel_rfl) (fun _ _ _ h => h) (Or.inr ⟨?wtb22, rfl⟩) (by assumption) ?restb22
                      case hib22 => (simp only [List.getElem?_toArray, List.getElem?_cons_succ, List.getElem?_cons_zero]; rfl)
                      case wtb22 => rfl
                      (try simp only [Act.put, List.setIfInBounds_toArray, List.set_cons_zero, List.set_cons_succ])
                      refine wpAnyH_take (i := 23) (oi := ?oib23) (v := undef) ?hib23 (by kernel_rfl) (by kernel_rfl) (by kernel_rfl) (fun _ _ _ h => h) (Or.inr ⟨?wtb23, rfl⟩) (by assumption) ?restb23
                      case hib23 => (simp only [List.getElem?_toArray, List.getElem?_cons_succ, List.getElem?_cons_zero]; rfl)
                      case wtb23 => rfl
                      (try simp only [Act.put, List.setIfInBounds_toArray, List.set_cons_zero, List.set_cons_succ])
                      refine wpAnyH_take (i := 24) (oi := ?oib24) (v := undef) ?hib24 (by kernel_rfl) (by kernel_rfl) (by kernel_rfl) (fun _ _ _ h => h) (Or.inr ⟨?wtb24, rfl⟩) (by assumption) ?restb24
                      case hib24 => (simp only [List.getElem?_toArray, List.getElem?_cons_succ, List.getElem?_cons_zero]; rfl)
                      case wtb24 => rfl
                      (try simp only [Act.put, List.setIfInBounds_toArray, List.set_cons_zero, List.set_cons_succ])
                      refine wpAnyH_take (i := 25) (oi := ?oib25) (v := undef) ?hib25 (by kernel_rfl) (by kernel_rfl) (by kernel_rfl) (fun _ _ _ h => h) (Or.inr ⟨?wtb25, rfl⟩) (by assumption) ?restb25
                      case hib25 => (simp only [List.getElem?_toArray, List.getElem?_cons_succ, List.getElem?_cons_zero]; rfl)
                      case wtb25 => rfl
                      (try simp only [Act.put, List.setIfInBounds_toArray, List.set_cons_zero, List.set_cons_succ])
                      refine wpAnyH_take (i := 26) (oi := ?oib26) (v := undef) ?hib26 (by kernel_rfl) (by kernel_rfl) (by kernel_rfl) (fun _ _ _ h => h) (Or.inr ⟨?wtb26, rfl⟩) (by assumption) ?restb26
                      case hib26 => (simp only [List.getElem?_toArray, List.getElem?_cons_succ, List.getElem?_cons_zero]; rfl)
                      case wtb26 => rfl
                      (try simp only [Act.put, List.setIfInBounds_toArray, List.set_cons_zero, List.set_cons_succ])
                      refine wpAnyH_take (i := 27) (oi := ?oib27) (v := undef) ?hib27 (by kernel_rfl) (by kernel_rfl) (by kernel_rfl) (fun _ _ _ h => h) (Or.inr ⟨?wtb27, rfl⟩) (by assumption) ?restb27
                      case hib27 => (simp only [List.getElem?_toArray, List.getElem?_cons_succ, List.getElem?_cons_zero]; rfl)
                      case wtb27 => rfl
                      (try simp only [Act.put, List.setIfInBounds_toArray, List.set_cons_zero, List.set_cons_succ])
                      refine wpAnyH_take (i := 28) (oi := ?oib28) (v := ?vb28) ?hib28 (by kernel_rfl) (by kernel_rfl) (by kernel_rfl) (fun _ _ _ h => h) (Or.inl ⟨?wtb28, ?hyb28⟩) (by assumption) ?restb28
                      case hib28 => (simp only [List.getElem?_toArray, List.getElem?_cons_succ, List.getElem?_cons_zero]; rfl)
                      case wtb28 => rfl
                      case hyb28 => (intro w hSw; (try dsimp only at hSw); go_simp) <;> (first | done | with_reducible rfl)
                      (try simp only [Act.put, List.setIfInBounds_toArray, List.set_cons_zero, List.set_cons_succ])
                      refine wpAnyH_done (by kernel_rfl) ?_ _
                      refine NoPanic.normal ?_
                      go_wp2_with fail
                      go_ret
                      exact ⟨by rw [HBADF.out (by simp [Pl.fileOk]; omega)]; rfl, HBB.out⟩
                    · have d0 : decide (fl < 0) = false := by simp; omega
                      by_cases h1 : 4611686018427387904 < fl
                      · have d1 : decide ((4611686018427387904 : Int) < fl) = true := by simp; omega
                        go_region_held3 (fun W => W.cell? ⟨w.heap.size, 11, none⟩ = some (.slice (some ad) s.files.length cc) ∧ W.cell? (ad.add (k * 3)) = some (strV fn) ∧ W.cell? ⟨(ad.add (k * 3)).block, (ad.add (k * 3)).off + 1, none⟩ = some (.int .i64 fl) ∧ W.cell? (bd.add k) = some (strV fn)) (first | exact HX.out) (first | fail)
                        go_wp2_with fail
                        go_ret
                        exact ⟨by rw [HBADF.out (by simp [Pl.fileOk]; omega)]; rfl, HBB.out⟩
                      · have d1 : decide ((4611686018427387904 : Int) < fl) = false := by simp; omega
                        go_region_held3 (fun W => W.cell? ⟨w.heap.size, 11, none⟩ = some (.slice (some ad) s.files.length cc) ∧ W.cell? (ad.add (k * 3)) = some (strV fn) ∧ W.cell? ⟨(ad.add (k * 3)).block, (ad.add (k * 3)).off + 1, none⟩ = some (.int .i64 fl) ∧ W.cell? (bd.add k) = some (strV fn)) (first | exact HX.out) (first | fail)
                        have HOK2 := Lib.hid (show ∀ j f n, j < k + 1 → fs[j]? = some f → ns[j]? = some n → Pl.fileOk f n = true by
                          intro j f n hj h1 h2
                          by_cases hjk : j = k
                          · subst hjk
                            have e1 := HF.out.symm.trans h1
                            have e2 := HM.out.symm.trans h2
                            injection e1 with e1
                            injection e2 with e2
                            subst e1 e2
                            simp [Pl.fileOk]
                            omega
                          · exact HOK.out j f n (by omega) h1 h2)
                        go_wp2_with fail
                        go_roundw
                        case rel => exact ⟨k + 1, by go_num, ⟨by omega⟩, ⟨HOK2.out⟩, ⟨HBD.out⟩⟩
                        case measure => simp [intOf]; omega
                  · have dn : (!(fn == m)) = true := by simpa using hn
                    refine wp_region_noPanic ?_
                    refine wp_region_held_drew (S := (fun W => W.cell? ⟨w.heap.size, 11, none⟩ = some (.slice (some ad) s.files.length cc) ∧ W.cell? (ad.add (k * 3)) = some (strV fn) ∧ W.cell? ⟨(ad.add (k * 3)).block, (ad.add (k * 3)).off + 1, none⟩ = some (.int .i64 fl) ∧ W.cell? (bd.add k) = some (strV m))) (by kernel_rfl) ?_ (fun hHeld => ?_)
                    · first | exact trivial | ((try dsimp only); exact HX.out)
                    refine wpAnyH_take (i := 0) (oi := ?oia0) (v := ?va0) ?hia0 (by kernel_rfl) (by kernel_rfl) (by kernel_rfl) (fun _ _ _ h => h) (Or.inl ⟨?wta0, ?hya0⟩) (by assumption) ?resta0
                    case hia0 => (simp only [List.getElem?_toArray, List.getElem?_cons_succ, List.getElem?_cons_zero]; rfl)
                    case wta0 => rfl
                    case hya0 => (intro w hSw; (try dsimp only at hSw); go_simp) <;> (first | done | with_reducible rfl)
                    (try simp only [Act.put, List.setIfInBounds_toArray, List.set_cons_zero, List.set_cons_succ])
                    refine wpAnyH_take (i := 1) (oi := ?oia1) (v := ?va1) ?hia1 (by kernel_rfl) (by kernel_rfl) (by kernel_rfl) (fun _ _ _ h => h) (Or.inl ⟨?wta1, ?hya1⟩) (by assumption) ?resta1
                    case hia1 => (simp only [List.getElem?_toArray, List.getElem?_cons_succ, List.getElem?_cons_zero]; rfl)
                    case wta1 => rfl
                    case hya1 => (intro w hSw; (try dsimp only at hSw); go_simp) <;> (first | done | with_reducible rfl)
                    (try simp only [Act.put, List.setIfInBounds_toArray, List.set_cons_zero, List.set_cons_succ])
                    refine wpAnyH_take (i := 2) (oi := ?oia2) (v := ?va2) ?hia2 (by kernel_rfl) (by kernel_rfl) (by kernel_rfl) (fun _ _ _ h => h) (Or.inl ⟨?wta2, ?hya2⟩) (by assumption) ?resta2
                    case hia2 => (simp only [List.getElem?_toArray, List.getElem?_cons_succ, List.getElem?_cons_zero]; rfl)
                    case wta2 => rfl
                    case hya2 => (intro w hSw; (try dsimp only at hSw); go_simp) <;> (first | done | with_reducible rfl)
                    (try simp only [Act.put, List.setIfInBounds_toArray, List.set_cons_zero, List.set_cons_succ])
                    refine wpAnyH_take (i := 3) (oi := ?oia3) (v := ?va3) ?hia3 (by kernel_rfl) (by kernel_rfl) (by kernel_rfl) (fun _ _ _ h => h) (Or.inl ⟨?wta3, ?hya3⟩) (by assumption) ?resta3
                    case hia3 => (simp only [List.getElem?_toArray, List.getElem?_cons_succ, List.getElem?_cons_zero]; rfl)
                    case wta3 => rfl
                    case hya3 => (intro w hSw; (try dsimp only at hSw); go_simp) <;> (first | done | with_reducible rfl)
                    (try simp only [Act.put, List.setIfInBounds_toArray, List.set_cons_zero, List.set_cons_succ])
                    refine wpAnyH_take (i := 4) (oi := ?oia4) (v := ?va4) ?hia4 (by kernel_rfl) (by kernel_rfl) (by kernel_rfl) (fun _ _ _ h => h) (Or.inl ⟨?wta4, ?hya4⟩) (by assumption) ?resta4
                    case hia4 => (simp only [List.getElem?_toArray, List.getElem?_cons_succ, List.getElem?_cons_zero]; rfl)
                    case wta4 => rfl
                    case hya4 => (intro w hSw; (try dsimp only at hSw); go_simp) <;> (first | done | with_reducible rfl)
                    (try simp only [Act.put, List.setIfInBounds_toArray, List.set_cons_zero, List.set_cons_succ])
                    refine wpAnyH_take (i := 5) (oi := ?oia5) (v := ?va5) ?hia5 (by kernel_rfl) (by kernel_rfl) (by kernel_rfl) (fun _ _ _ h => h) (Or.inl ⟨?wta5, ?hya5⟩) (by assumption) ?resta5
                    case hia5 => (simp only [List.getElem?_toArray, List.getElem?_cons_succ, List.getElem?_cons_zero]; rfl)
                    case wta5 => rfl
                    case hya5 => (intro w hSw; (try dsimp only at hSw); go_simp) <;> (first | done | with_reducible rfl)
                    (try simp only [Act.put, List.setIfInBounds_toArray, List.set_cons_zero, List.set_cons_succ])
                    refine wpAnyH_take (i := 6) (oi := ?oia6) (v := ?va6) ?hia6 (by kernel_rfl) (by kernel_rfl) (by kernel_rfl) (fun _ _ _ h => h) (Or.inl ⟨?wta6, ?hya6⟩) (by assumption) ?resta6
                    case hia6 => (simp only [List.getElem?_toArray, List.getElem?_cons_succ, List.getElem?_cons_zero]; rfl)
                    case wta6 => rfl
                    case hya6 => (intro w hSw; (try dsimp only at hSw); go_simp) <;> (first | done | with_reducible rfl)
                    (try simp only [Act.put, List.setIfInBounds_toArray, List.set_cons_zero, List.set_cons_succ])
                    refine wpAnyH_take (i := 7) (oi := ?oia7) (v := ?va7) ?hia7 (by kernel_rfl) (by kernel_rfl) (by kernel_rfl) (fun _ _ _ h => h) (Or.inl ⟨?wta7, ?hya7⟩) (by assumption) ?resta7
                    case hia7 => (simp only [List.getElem?_toArray, List.getElem?_cons_succ, List.getElem?_cons_zero]; rfl)
                    case wta7 => rfl
                    case hya7 => (intro w hSw; (try dsimp only at hSw); go_simp) <;> (first | done | with_reducible rfl)
                    (try simp only [Act.put, List.setIfInBounds_toArray, List.set_cons_zero, List.set_cons_succ])
                    refine wpAnyH_take (i := 8) (oi := ?oia8) (v := ?va8) ?hia8 (by kernel_rfl) (by kernel_rfl) (by kernel_rfl) (fun _ _ _ h => h) (Or.inl ⟨?wta8, ?hya8⟩) (by assumption) ?resta8
                    case hia8 => (simp only [List.getElem?_toArray, List.getElem?_cons_succ, List.getElem?_cons_zero]; rfl)
                    case wta8 => rfl
                    case hya8 => (intro w hSw; (try dsimp only at hSw); go_simp) <;> (first | done | with_reducible rfl)
                    (try simp only [Act.put, List.setIfInBounds_toArray, List.set_cons_zero, List.set_cons_succ])
                    refine wpAnyH_take (i := 9) (oi := ?oia9) (v := ?va9) ?hia9 (by kernel_rfl) (by kernel_rfl) (by kernel_rfl) (fun _ _ _ h => h) (Or.inl ⟨?wta9, ?hya9⟩) (by assumption) ?resta9
                    case hia9 => (simp only [List.getElem?_toArray, List.getElem?_cons_succ, List.getElem?_cons_zero]; rfl)
                    case wta9 => rfl
                    case hya9 => (intro w hSw; (try dsimp only at hSw); go_simp) <;> (first | done | with_reducible rfl)
                    (try simp only [Act.put, List.setIfInBounds_toArray, List.set_cons_zero, List.set_cons_succ])
                    refine wpAnyH_take (i := 10) (oi := ?oia10) (v := ?va10) ?hia10 (by kernel_rfl) (by kernel_rfl) (by kernel_rfl) (fun _ _ _ h => h) (Or.inl ⟨?wta10, ?hya10⟩) (by assumption) ?resta10
                    case hia10 => (simp only [List.getElem?_toArray, List.getElem?_cons_succ, List.getElem?_cons_zero]; rfl)
                    case wta10 => rfl
                    case hya10 => (intro w hSw; (try dsimp only at hSw); go_simp) <;> (first | done | with_reducible rfl)
                    (try simp only [Act.put, List.setIfInBounds_toArray, List.set_cons_zero, List.set_cons_succ])
                    refine wpAnyH_take (i := 11) (oi := ?oia11) (v := ?va11) ?hia11 (by kernel_rfl) (by kernel_rfl) (by kernel_rfl) (fun _ _ _ h => h) (Or.inl ⟨?wta11, ?hya11⟩) (by assumption) ?resta11
                    case hia11 => (simp only [List.getElem?_toArray, List.getElem?_cons_succ, List.getElem?_cons_zero]; rfl)
                    case wta11 => rfl
                    case hya11 => (intro w hSw; (try dsimp only at hSw); go_simp) <;> (first | done | with_reducible rfl)
                    (try simp only [Act.put, List.setIfInBounds_toArray, List.set_cons_zero, List.set_cons_succ])
                    refine wpAnyH_take (i := 12) (oi := ?oia12) (v := undef) ?hia12 (by kernel_rfl) (by kernel_rfl) (by kernel_rfl) (fun _ _ _ h => h) (Or.inr ⟨?wta12, rfl⟩) (by assumption) ?resta12
                    case hia12 => (simp only [List.getElem?_toArray, List.getElem?_cons_succ, List.getElem?_cons_zero]; rfl)
                    case wta12 => rfl
                    (try simp only [Act.put, List.setIfInBounds_toArray, List.set_cons_zero, List.set_cons_succ])
                    refine wpAnyH_take (i := 13) (oi := ?oia13) (v := undef) ?hia13 (by kernel_rfl) (by kernel_rfl) (by kernel_rfl) (fun _ _ _ h => h) (Or.inr ⟨?wta13, rfl⟩) (by assumption) ?resta13
                    case hia13 => (simp only [List.getElem?_toArray, List.getElem?_cons_succ, List.getElem?_cons_zero]; rfl)
                    case wta13 => rfl
                    (try simp only [Act.put, List.setIfInBounds_toArray, List.set_cons_zero, List.set_cons_succ])
                    refine wpAnyH_take (i := 14) (oi := ?oia14) (v := undef) ?hia14 (by kernel_rfl) (by kernel_rfl) (by kernel_rfl) (fun _ _ _ h => h) (Or.inr ⟨?wta14, rfl⟩) (by assumption) ?resta14
                    case hia14 => (simp only [List.getElem?_toArray, List.getElem?_cons_succ, List.getElem?_cons_zero]; rfl)
                    case wta14 => rfl
                    (try simp only [Act.put, List.setIfInBounds_toArray, List.set_cons_zero, List.set_cons_succ])
                    refine wpAnyH_take (i := 15) (oi := ?oia15) (v := undef) ?hia15 (by kernel_rfl) (by kernel_rfl) (by kernel_rfl) (fun _ _ _ h => h) (Or.inr ⟨?wta15, rfl⟩) (by assumption) ?resta15
                    case hia15 => (simp only [List.getElem?_toArray, List.getElem?_cons_succ, List.getElem?_cons_zero]; rfl)
                    case wta15 => rfl
                    (try simp only [Act.put, List.setIfInBounds_toArray, List.set_cons_zero, List.set_cons_succ])
                    refine wpAnyH_take (i := 16) (oi := ?oia16) (v := undef) ?hia16 (by kernel_rfl) (by kernel_rfl) (by kernel_rfl) (fun _ _ _ h => h) (Or.inr ⟨?wta16, rfl⟩) (by assumption) ?resta16
                    case hia16 => (simp only [List.getElem?_toArray, List.getElem?_cons_succ, List.getElem?_cons_zero]; rfl)
                    case wta16 => rfl
                    (try simp only [Act.put, List.setIfInBounds_toArray, List.set_cons_zero, List.set_cons_succ])
                    refine wpAnyH_take (i := 17) (oi := ?oia17) (v := undef) ?hia17 (by kernel_rfl) (by kernel_rfl) (by kernel_rfl) (fun _ _ _ h => h) (Or.inr ⟨?wta17, rfl⟩) (by assumption) ?resta17
                    case hia17 => (simp only [List.getElem?_toArray, List.getElem?_cons_succ, List.getElem?_cons_zero]; rfl)
                    case wta17 => rfl
                    (try simp only [Act.put, List.setIfInBounds_toArray, List.set_cons_zero, List.set_cons_succ])
                    refine wpAnyH_take (i := 18) (oi := ?oia18) (v := undef) ?hia18 (by kernel_rfl) (by kernel_rfl) (by kernel_rfl) (fun _ _ _ h => h) (Or.inr ⟨?wta18, rfl⟩) (by assumption) ?resta18
                    case hia18 => (simp only [List.getElem?_toArray, List.getElem?_cons_succ, List.getElem?_cons_zero]; rfl)
                    case wta18 => rfl
                    (try simp only [Act.put, List.setIfInBounds_toArray, List.set_cons_zero, List.set_cons_succ])
                    refine wpAnyH_take (i := 19) (oi := ?oia19) (v := ?va19) ?hia19 (by kernel_rfl) (by kernel_rfl) (by kernel_rfl) (fun _ _ _ h => h) (Or.inl ⟨?wta19, ?hya19⟩) (by assumption) ?resta19
                    case hia19 => (simp only [List.getElem?_toArray, List.getElem?_cons_succ, List.getElem?_cons_zero]; rfl)
                    case wta19 => rfl
                    case hya19 => (intro w hSw; (try dsimp only at hSw); go_simp) <;> (first | done | with_reducible rfl)
                    (try simp only [Act.put, List.setIfInBounds_toArray, List.set_cons_zero, List.set_cons_succ])
                    refine wpAnyH_take (i := 20) (oi := ?oia20) (v := ?va20) ?hia20 (by kernel_rfl) (by kernel_rfl) (by kernel_rfl) (fun _ _ _ h => h) (Or.inl ⟨?wta20, ?hya20⟩) (by assumption) ?resta20
                    case hia20 => (simp only [List.getElem?_toArray, List.getElem?_cons_succ, List.getElem?_cons_zero]; rfl)
                    case wta20 => rfl
                    case hya20 => (intro w hSw; (try dsimp only at hSw); go_simp) <;> (first | done | with_reducible rfl)
                    (try simp only [Act.put, List.setIfInBounds_toArray, List.set_cons_zero, List.set_cons_succ])
                    refine wpAnyH_take (i := 21) (oi := ?oia21) (v := undef) ?hia21 (by kernel_rfl) (by kernel_rfl) (by kernel_rfl) (fun _ _ _ h => h) (Or.inr ⟨?wta21, rfl⟩) (by assumption) ?resta21
                    case hia21 => (simp only [List.getElem?_toArray, List.getElem?_cons_succ, List.getElem?_cons_zero]; rfl)
                    case wta21 => rfl
                    (try simp only [Act.put, List.setIfInBounds_toArray, List.set_cons_zero, List.set_cons_succ])
                    refine wpAnyH_take (i := 22) (oi := ?oia22) (v := undef) ?hia22 (by kernel_rfl) (by kernel_rfl) (by kernel_rfl) (fun _ _ _ h => h) (Or.inr ⟨?wta22, rfl⟩) (by assumption) ?resta22
                    case hia22 => (simp only [List.getElem?_toArray, List.getElem?_cons_succ, List.getElem?_cons_zero]; rfl)
                    case wta22 => rfl
                    (try simp only [Act.put, List.setIfInBounds_toArray, List.set_cons_zero, List.set_cons_succ])
                    refine wpAnyH_take (i := 23) (oi := ?oia23) (v := undef) ?hia23 (by kernel_rfl) (by kernel_rfl) (by kernel_rfl) (fun _ _ _ h => h) (Or.inr ⟨?wta23, rfl⟩) (by assumption) ?resta23
                    case hia23 => (simp only [List.getElem?_toArray, List.getElem?_cons_succ, List.getElem?_cons_zero]; rfl)
                    case wta23 => rfl
                    (try simp only [Act.put, List.setIfInBounds_toArray, List.set_cons_zero, List.set_cons_succ])
                    refine wpAnyH_take (i := 24) (oi := ?oia24) (v := undef) ?hia24 (by kernel_rfl) (by kernel_rfl) (by kernel_rfl) (fun _ _ _ h => h) (Or.inr ⟨?wta24, rfl⟩) (by assumption) ?resta24
                    case hia24 => (simp only [List.getElem?_toArray, List.getElem?_cons_succ, List.getElem?_cons_zero]; rfl)
                    case wta24 => rfl
                    (try simp only [Act.put, List.setIfInBounds_toArray, List.set_cons_zero, List.set_cons_succ])
                    refine wpAnyH_take (i := 25) (oi := ?oia25) (v := undef) ?hia25 (by kernel_rfl) (by kernel_rfl) (by kernel_rfl) (fun _ _ _ h => h) (Or.inr ⟨?wta25, rfl⟩) (by assumption) ?resta25
                    case hia25 => (simp only [List.getElem?_toArray, List.getElem?_cons_succ, List.getElem?_cons_zero]; rfl)
                    case wta25 => rfl
                    (try simp only [Act.put, List.setIfInBounds_toArray, List.set_cons_zero, List.set_cons_succ])
                    refine wpAnyH_take (i := 26) (oi := ?oia26) (v := undef) ?hia26 (by kernel_rfl) (by kernel_rfl) (by kernel_rfl) (fun _ _ _ h => h) (Or.inr ⟨?wta26, rfl⟩) (by assumption) ?resta26
                    case hia26 => (simp only [List.getElem?_toArray, List.getElem?_cons_succ, List.getElem?_cons_zero]; rfl)
                    case wta26 => rfl
                    (try simp only [Act.put, List.setIfInBounds_toArray, List.set_cons_zero, List.set_cons_succ])
                    refine wpAnyH_take (i := 27) (oi := ?oia27) (v := undef) ?hia27 (by kernel_rfl) (by kernel_rfl) (by kernel_rfl) (fun _ _ _ h => h) (Or.inr ⟨?wta27, rfl⟩) (by assumption) ?resta27
                    case hia27 => (simp only [List.getElem?_toArray, List.getElem?_cons_succ, List.getElem?_cons_zero]; rfl)
                    case wta27 => rfl
                    (try simp only [Act.put, List.setIfInBounds_toArray, List.set_cons_zero, List.set_cons_succ])
                    refine wpAnyH_take (i := 28) (oi := ?oia28) (v := ?va28) ?hia28 (by kernel_rfl) (by kernel_rfl) (by kernel_rfl) (fun _ _ _ h => h) (Or.inl ⟨?wta28, ?hya28⟩) (by assumption) ?resta28
                    case hia28 => (simp only [List.getElem?_toArray, List.getElem?_cons_succ, List.getElem?_cons_zero]; rfl)
                    case wta28 => rfl
                    case hya28 => (intro w hSw; (try dsimp only at hSw); go_simp) <;> (first | done | with_reducible rfl)
                    (try simp only [Act.put, List.setIfInBounds_toArray, List.set_cons_zero, List.set_cons_succ])
                    refine wpAnyH_done (by kernel_rfl) ?_ _
                    refine NoPanic.normal ?_
                    go_wp2_with fail
                    go_ret
                    exact ⟨by rw [HBADF.out (by simp [Pl.fileOk, hn])]; rfl, HBB.out⟩
                · obtain rfl : k = ns.length := by have := hk.out; omega
                  have hdk : decide ((ns.length : Int) < (ns.length : Int)) = false := by simp
                  have HGOOD := Lib.hid ((Pl.sheetOk_iff s).2 ⟨HR.out, HT.out.2.1, HT.out.2.2.1, HT.out.2.2.2.1, HT.out.2.2.2.2, by
                    rw [HFS.out, HNS.out]
                    exact Pl.filesOk_all fs ns HFL.out (fun j f n h1 h2 => HOK.out j f n (by have := (List.getElem?_eq_some_iff.1 h2).1; omega) h1 h2)⟩)
                  have HBB := Lib.hid (bthen HB2.out HB.out)
                  go_wp2_with fail
                  go_ret
                  exact ⟨by rw [HGOOD.out]; rfl, HBB.out⟩
            · have dt1 : ((s.files.length : Int) != (ns.length : Int)) = true := by simp only [bne_iff_ne, ne_eq]; omega
              have HBAD := Lib.hid (Pl.sheetOk_false (s := s) (fun h => t1 (by rw [← HNS.out]; exact Pl.filesOk_len _ _ h.2.2.2.2.2)))
              clear t2 t3 t4 t5 t1
              go_wp2_with fail
              go_ret
              exact ⟨by rw [HBAD.out]; rfl, HB2.out⟩
          · have dt5 : decide ((4611686018427387904 : Int) < s.edg) = true := by simp; omega
            have HBAD := Lib.hid (Pl.sheetOk_false (s := s) (fun h => t5 h.2.2.2.2.1))
            clear t2 t3 t4 t5
            go_wp2_with fail
            go_ret
            exact ⟨by rw [HBAD.out]; rfl, HB2.out⟩
        · have dt4 : decide (s.edg < 0) = true := by simp; omega
          have HBAD := Lib.hid (Pl.sheetOk_false (s := s) (fun h => t4 h.2.2.2.1))
          clear t2 t3 t4
          go_wp2_with fail
          go_ret
          exact ⟨by rw [HBAD.out]; rfl, HB2.out⟩
      · have dt3 : decide ((4294967296 : Int) < s.lab) = true := by simp; omega
        have HBAD := Lib.hid (Pl.sheetOk_false (s := s) (fun h => t3 h.2.2.1))
        clear t2 t3
        go_wp2_with fail
        go_ret
        exact ⟨by rw [HBAD.out]; rfl, HB2.out⟩
    · have dt2 : decide (s.lab < 0) = true := by simp; omega
      have HBAD := Lib.hid (Pl.sheetOk_false (s := s) (fun h => t2 h.2.1))
      clear t2
      go_wp2_with fail
      go_ret
      exact ⟨by rw [HBAD.out]; rfl, HB2.out⟩
end Go.Proofs.YtfppbkpdpapemaaDoor
