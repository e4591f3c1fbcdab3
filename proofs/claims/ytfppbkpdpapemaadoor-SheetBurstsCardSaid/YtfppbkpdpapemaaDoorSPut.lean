import Derived.Test.YtfppbkpdpapemaaDoorStrKit
import Derived.Test.YtfppbkpdpapemaaDoorNames
import Derived.Test.YtfppbkpdpapemaaDoorSeal
import Derived.Test.YtfppbkpdpapemaaDoorNote
import Derived.Test.YtfppbkpdpapemaaDoorRConf
/-! sheet.Put. -/
set_option linter.unusedSimpArgs false
set_option linter.unusedVariables false
namespace Go.Proofs.YtfppbkpdpapemaaDoor
open Go.RowKit Go.Proofs.YtfppbkpdpapemaaDoorW.PrintWords Go.Proofs.YtfppbkpdpapemaaDoorW.PrintLast Go.Proofs.YtfppbkpdpapemaaDoorW.PrintMore
attribute [local go_sem] max2_int min2_int max_two min_two

/-- A file of a row of files. -/
theorem file_get {w : World} {A : Option Addr} {n : Nat} {ok : Nat → Prop} {fs : List Pl.FileT} (h : Kd.F kFile w ok A n fs) (k : Nat) (f : Pl.FileT) (hf : fs[k]? = some f) :
    ∃ ad, A = some ad ∧ w.cell? (ad.add (k * 3)) = some (strV f.1) ∧ w.cell? ⟨(ad.add (k * 3)).block, (ad.add (k * 3)).off + 1, none⟩ = some (.int .i64 f.2.1) ∧ w.cell? ⟨(ad.add (k * 3)).block, (ad.add (k * 3)).off + 2, none⟩ = some (.int .u32 f.2.2) := by
  obtain ⟨ad, cs, he, hK, hc⟩ := row_get h k f hf
  obtain ⟨_, _, rfl, rfl, _, _, rfl, rfl, rfl⟩ := Kd.FK_now hK
  have h0 := hc 0 _ rfl
  have h1 := hc 1 _ rfl
  have h2 := hc 2 _ rfl
  rw [add_field _ _ 1 (by omega)] at h1
  rw [add_field _ _ 2 (by omega)] at h2
  exact ⟨ad, he, h0, h1, h2⟩
/-- What puts a sheet answers. -/
def PutS (s : Pl.Sheet) (w : World) (e : Ending) (w' : World) : Prop := ∃ v' : Value, e = .returned (.tuple #[v', .int .i64 (if Pl.sheetOk s then 0 else 1)]) ∧ Own kb 5 w' w.heap.size v' (if Pl.sheetOk s then Pl.sealB (Pl.sheetB s) else []) ∧ Below w.heap.size w w'
structure ShIn (s : Pl.Sheet) : Prop where
  c : CfgIn s.c
  l0 : -9223372036854775808 ≤ s.lab
  l1 : s.lab ≤ 9223372036854775807
  e0 : -9223372036854775808 ≤ s.edg
  e1 : s.edg ≤ 9223372036854775807
  f : ∀ f ∈ s.files, -9223372036854775808 ≤ f.2.1 ∧ f.2.1 ≤ 9223372036854775807 ∧ 0 ≤ f.2.2 ∧ f.2.2 ≤ 4294967295
theorem puts_no {s : Pl.Sheet} {w w' : World} (h : Pl.sheetOk s = false) (hb : Below w.heap.size w w') : PutS s w (.returned (.tuple #[.slice none 0 0, .int .i64 1])) w' := by
  refine ⟨_, by rw [h]; rfl, ?_, hb⟩
  rw [h]
  exact Own.nil _ _ _ _
theorem shAt_of {W : World} {g t : Nat} {s : Pl.Sheet} {v : Value} (K : Blk W g (sheetC s v) t) : W.cell? ⟨g, 0, none⟩ = some (.int .u8 (s.c.fmt.toNat : Int)) ∧ W.cell? ⟨g, 1, none⟩ = some (.bool s.c.num) ∧ W.cell? ⟨g, 2, none⟩ = some (.bool s.c.skip) ∧ W.cell? ⟨g, 3, none⟩ = some (.bool s.c.both) ∧ W.cell? ⟨g, 4, none⟩ = some (.bool s.c.loops) ∧ W.cell? ⟨g, 5, none⟩ = some (.bool s.c.back) ∧ W.cell? ⟨g, 6, none⟩ = some (.int .i64 s.c.bud) ∧ W.cell? ⟨g, 7, none⟩ = some (.int .i64 s.c.fan) ∧ W.cell? ⟨g, 8, none⟩ = some (.int .i64 s.c.sha) ∧ W.cell? ⟨g, 9, none⟩ = some (.int .i64 s.lab) ∧ W.cell? ⟨g, 10, none⟩ = some (.int .i64 s.edg) := ⟨K.cell.1 0, K.cell.1 1, K.cell.1 2, K.cell.1 3, K.cell.1 4, K.cell.1 5, K.cell.1 6, K.cell.1 7, K.cell.1 8, K.cell.1 9, K.cell.1 10⟩
theorem fix_int (v : Value) (l0 : List UInt8) (z : Int) (w : World) (hv : Rd kb w v l0) (h0 : 0 ≤ z) (h1 : z < 18446744073709551616) (hl : l0.length ≤ 1099511627776) :
    Calls Tryd.prog 23 #[v, .int .u64 z, .int .i64 4] w fun e w' => ∃ v' : Value, e = .returned v' ∧ Own kb 5 w' w.heap.size v' (l0 ++ Pl.fixB 4 z.toNat) ∧ Below w.heap.size w w' := by
  have := fix_any v l0 z.toNat 4 w hv (by omega) (by omega) (by omega) hl
  rw [show ((z.toNat : Nat) : Int) = z by omega] at this
  exact this
theorem names_len {c : Pl.Cfg} (h : Pl.right c = true) : 2 ≤ (Pl.names c).length ∧ (Pl.names c).length ≤ 33 := by
  have hb := Pl.right_bounds h
  rw [Pl.names_right h]
  simp only [Pl.namesOf]
  split <;> simp <;> omega

set_option maxRecDepth 100000 in
set_option maxHeartbeats 4000000 in
theorem sput_any (s : Pl.Sheet) (v : Value) (w : World) (hs : ShIn s) (hv : Rd kFile w v s.files) (hl : s.files.length ≤ 40) : Calls Tryd.prog 12 #[sheetV s v] w (PutS s w) := by
  have HV := Lib.hid hv
  obtain ⟨A, cc, rfl, hcc, _⟩ := hv
  go_enter Tryd.func12, Tryd.ntmps12
  go_wp2_with fail
  refine calls_at fun W1 hW1 => ?_
  have hb1 : Below w.heap.size w W1 := by rw [← hW1]; exact below_alloc (Below.refl _ _) _
  have K1 : Blk W1 w.heap.size (sheetC s (.slice A s.files.length cc)) 38 := by rw [← hW1]; exact Blk.new _ _ _
  clear hW1
  refine (names_any s.c W1).mono ?_
  rintro e w2 ⟨v2, rfl, ho2, hb2⟩
  obtain ⟨ns, hns⟩ : ∃ ns, Pl.names s.c = ns := ⟨_, rfl⟩
  rw [hns] at ho2
  have HNS := Lib.hid hns
  obtain ⟨A2, c2, hv2⟩ := Kd.N_slice ho2
  subst hv2
  have K2 := K1.belowW hb2
  have HB2 := Lib.hid (bthen hb1 hb2)
  have HV2 := Lib.hid (Rd.below HV.out HB2.out)
  have HO2 := Lib.hid ho2.rd
  have HK2 := Lib.hid K2
  clear hb1 hb2 K1 ho2 hns
  obtain ⟨q9, q10, q11⟩ : w2.cell? ⟨w.heap.size, 9, none⟩ = some (.int .i64 s.lab) ∧ w2.cell? ⟨w.heap.size, 10, none⟩ = some (.int .i64 s.edg) ∧ w2.cell? ⟨w.heap.size, 11, none⟩ = some (.slice A s.files.length cc) := ⟨K2.cell.1 9, K2.cell.1 10, K2.cell.1 11⟩
  clear K2
  rcases hr : Pl.right s.c with _ | _
  · have hn0 : ns.length = 0 := by rw [← HNS.out, Pl.names_wrong hr]; rfl
    have HBAD := Lib.hid (Pl.sheetOk_false (s := s) (by rintro ⟨h, _⟩; rw [hr] at h; cases h))
    go_wp2_with fail
    go_ret2
    exact puts_no HBAD.out HB2.out
  · have hnl := names_len hr
    rw [HNS.out] at hnl
    obtain ⟨hnl1, hnl2⟩ := hnl
    have hd : ((ns.length : Int) == 0) = false := by rw [beq_eq_false_iff_ne]; omega
    by_cases t1 : s.files.length = ns.length
    · have dt1 : ((s.files.length : Int) != (ns.length : Int)) = false := by rw [t1]; simp
      by_cases t2 : 0 ≤ s.lab
      · have dt2 : decide (s.lab < 0) = false := by simp; omega
        by_cases t3 : s.lab ≤ 4294967296
        · have dt3 : decide ((4294967296 : Int) < s.lab) = false := by simp; omega
          by_cases t4 : 0 ≤ s.edg
          · have dt4 : decide (s.edg < 0) = false := by simp; omega
            by_cases t5 : s.edg ≤ 4611686018427387904
            · have dt5 : decide ((4611686018427387904 : Int) < s.edg) = false := by simp; omega
              have HR := Lib.hid hr
              have HT := Lib.hid (⟨t1, t2, t3, t4, t5⟩ : s.files.length = ns.length ∧ 0 ≤ s.lab ∧ s.lab ≤ 4294967296 ∧ 0 ≤ s.edg ∧ s.edg ≤ 4611686018427387904)
              have hw1 : IntKind.u64.wrap s.lab = s.lab := IntWalk.u64_in _ (by omega)
              have hw2 : IntKind.u64.wrap s.edg = s.edg := IntWalk.u64_in _ (by omega)
              clear hr
              go_upto_region 4 with fail
              have hbd := Pl.right_bounds HR.out
              have lcf := confB_len s.c hbd
              obtain ⟨CF, hCF⟩ : ∃ L, Pl.confB s.c = L := ⟨_, rfl⟩
              rw [hCF] at lcf
              have lp1 := Pl.putB_len10 (n := s.lab.toNat) (by omega)
              have lp2 := Pl.putB_len10 (n := s.edg.toNat) (by omega)
              obtain ⟨L4, hL4⟩ : ∃ L, CF ++ Pl.putB s.lab.toNat = L := ⟨_, rfl⟩
              have l4 : L4.length ≤ 42 := by rw [← hL4]; simp; omega
              obtain ⟨L5, hL5⟩ : ∃ L, L4 ++ Pl.putB s.edg.toNat = L := ⟨_, rfl⟩
              have l5 : L5.length ≤ 52 := by rw [← hL5]; simp; omega
              have HE := Lib.hid (⟨hCF, hL4, hL5⟩ : Pl.confB s.c = CF ∧ CF ++ Pl.putB s.lab.toNat = L4 ∧ L4 ++ Pl.putB s.edg.toNat = L5)
              have HBD := Lib.hid hbd
              have K2d := HK2.out.drew
              clear hCF hL4 hL5 lp1 lp2 hbd q9 q10 q11
              go_region_held3 (fun W => W.cell? ⟨w.heap.size, 0, none⟩ = some (.int .u8 (s.c.fmt.toNat : Int)) ∧ W.cell? ⟨w.heap.size, 1, none⟩ = some (.bool s.c.num) ∧ W.cell? ⟨w.heap.size, 2, none⟩ = some (.bool s.c.skip) ∧ W.cell? ⟨w.heap.size, 3, none⟩ = some (.bool s.c.both) ∧ W.cell? ⟨w.heap.size, 4, none⟩ = some (.bool s.c.loops) ∧ W.cell? ⟨w.heap.size, 5, none⟩ = some (.bool s.c.back) ∧ W.cell? ⟨w.heap.size, 6, none⟩ = some (.int .i64 s.c.bud) ∧ W.cell? ⟨w.heap.size, 7, none⟩ = some (.int .i64 s.c.fan) ∧ W.cell? ⟨w.heap.size, 8, none⟩ = some (.int .i64 s.c.sha) ∧ W.cell? ⟨w.heap.size, 9, none⟩ = some (.int .i64 s.lab) ∧ W.cell? ⟨w.heap.size, 10, none⟩ = some (.int .i64 s.edg)) (first | exact shAt_of K5 | exact shAt_of K4 | exact shAt_of K3 | exact shAt_of K2d)
                (first | (go_at_call 24; refine (put_int _ L4 s.edg _ ho4.rd (by omega) (by omega) (by omega)).mono ?_; rintro e w5 ⟨v5, rfl, ho5, hb5⟩; rw [HE.out.2.2] at ho5; have K5 := K4.belowW hb5) | (go_at_call 24; refine (put_int _ CF s.lab _ ho3.rd (by omega) (by omega) (by omega)).mono ?_; rintro e w4 ⟨v4, rfl, ho4, hb4⟩; rw [HE.out.2.1] at ho4; obtain ⟨A4, c4, hv4⟩ := Kd.N_slice ho4; subst hv4; have K4 := K3.belowW hb4) | (go_at_call 25; refine (config_any s.c _ hs.c (by have := HBD.out; omega) (by have := HBD.out; omega) (by have := HBD.out; omega)).mono ?_; rintro e w3 ⟨v3, rfl, ho3, hb3⟩; rw [HE.out.1] at ho3; obtain ⟨A3, c3, hv3⟩ := Kd.N_slice ho3; subst hv3; have K3 := K2d.belowW hb3))
              rename_i hheld
              clear hheld
              have hb24 := bthen (bthen (Below.refl _ w2).drew hb3) hb4
              have hb25 := bthen hb24 hb5
              have hs24 := hb24.size
              obtain ⟨A5, c5, hv5⟩ := Kd.N_slice ho5
              subst hv5
              have HO5 := Lib.hid (ho5.lower hs24)
              have HB5 := Lib.hid hb25
              have q11 := K5.cell.1 11
              have hszf := Kd.F_max (Kd.V_at HV2.out).2.2
              obtain ⟨fs, hfs⟩ : ∃ fs, s.files = fs := ⟨_, rfl⟩
              have HFS := Lib.hid hfs
              have hfl : fs.length = ns.length := by rw [← hfs]; exact t1
              have HFI := Lib.hid (show ∀ f ∈ fs, -9223372036854775808 ≤ f.2.1 ∧ f.2.1 ≤ 9223372036854775807 ∧ 0 ≤ f.2.2 ∧ f.2.2 ≤ 4294967295 by rw [← hfs]; exact hs.f)
              have HVF := Lib.hid (show Kd.F kFile w2 (fun _ => True) A fs.length fs by have := (Kd.V_at HV2.out).2.2; rw [hfs] at this; exact this)
              have HVN := Lib.hid (Kd.V_at HO2.out).2.2
              have HFL := Lib.hid hfl
              clear ho3 hb3 K3 ho4 hb4 K4 ho5 hb5 K5 K2d hb24 hb25 hs24 hfs HK2 t1 dt1 t2 dt2 t3 dt3 t4 dt4 t5 dt5 hfl HV2 HO2 hd hnl1
              go_wp2_with fail
              clear q11
              go_loopw [5, 6, 7, 56] (fun v x p i wr => ∃ k : Nat, i = .int .i64 (k : Int) ∧ Aside0 (k ≤ ns.length) ∧ Aside0 (∀ j f n, j < k → fs[j]? = some f → ns[j]? = some n → Pl.fileOk f n = true) ∧ Aside0 (Own kb 5 wr w2.heap.size v (L5 ++ (fs.take k).flatMap Pl.fileB)) ∧ Aside0 (Below w2.heap.size w2 wr)) (fun _ _ _ i _ => ns.length - (intOf i).toNat)
              case atStart => exact ⟨0, rfl, ⟨by omega⟩, ⟨fun j f n h => by omega⟩, ⟨by simpa using HO5.out⟩, ⟨HB5.out⟩⟩
              case round =>
                obtain ⟨k, rfl, hk, HOK, HO, HB⟩ := hrel
                obtain ⟨M, hM⟩ : ∃ M, L5 ++ (fs.take k).flatMap Pl.fileB = M := ⟨_, rfl⟩
                have hMl : M.length ≤ 1000 := by
                  rw [← hM, List.length_append]
                  have := Pl.flatB_len (fs.take k) (fun f hf => by have := HFI.out f (List.mem_of_mem_take hf); omega)
                  simp only [List.length_take] at this
                  have := HFL.out
                  omega
                have HMM := Lib.hid hM
                rw [hM] at HO
                clear hM
                obtain ⟨Ao, co, hvo⟩ := Kd.N_slice HO.out
                subst hvo
                have hsz2 := HB.out.size
                by_cases hlt : k < ns.length
                · obtain ⟨⟨fn, fl, fsm⟩, hf⟩ : ∃ f, fs[k]? = some f := ⟨_, List.getElem?_eq_getElem (by have := HFL.out; omega)⟩
                  obtain ⟨m, hm⟩ : ∃ m, ns[k]? = some m := ⟨_, List.getElem?_eq_getElem hlt⟩
                  obtain ⟨ad, hAa, y0, y1, y2⟩ := file_get HVF.out k _ hf
                  obtain ⟨bd, hAb, z0⟩ := kStr_cell HVN.out k m hm
                  subst hAa hAb
                  have hlA := World.block_lt_of_cell? _ _ y0
                  have hlB := World.block_lt_of_cell? _ _ z0
                  have x0 := (HB.out.cell (p := ad.add (k * 3)) hlA).trans y0
                  have x1 := (HB.out.cell (p := ⟨(ad.add (k * 3)).block, (ad.add (k * 3)).off + 1, none⟩) hlA).trans y1
                  have x2 := (HB.out.cell (p := ⟨(ad.add (k * 3)).block, (ad.add (k * 3)).off + 2, none⟩) hlA).trans y2
                  have x3 := (HB.out.cell (p := bd.add k) hlB).trans z0
                  obtain ⟨g1, g2, g3, g4⟩ := HFI.out _ (List.mem_of_getElem? hf)
                  simp only at g1 g2 g3 g4 x0 x1 x2
                  have q1 : (0 : Int) ≤ (k : Int) := by omega
                  have q2 : (k : Int) < (ns.length : Int) := by omega
                  have HF := Lib.hid hf
                  have HM := Lib.hid hm
                  clear y0 y1 y2 hf hm
                  have q3 : (k : Int) < (s.files.length : Int) := by have := HT.out.1; omega
                  have hdk : decide ((k : Int) < (s.files.length : Int)) = true := by simp; omega
                  go_upto_region 8 with fail
                  clear hdk
                  refine wp_at fun W3 hW3 => ?_
                  trace_state
                  have K3 : Blk W3 wr.heap.size #[strV fn, .int .i64 fl, .int .u32 fsm] 57 := by rw [← hW3]; exact Blk.new _ _ _
                  have HB3 := Lib.hid (show Below w2.heap.size w2 W3 by rw [← hW3]; exact HB.out.alloc hsz2 _)
                  have HO3 := Lib.hid (show Own kb 5 W3 w2.heap.size (.slice Ao M.length co) M by rw [← hW3]; exact HO.out.alloc _)
                  have z3 := (HB3.out.cell (p := bd.add k) hlB).trans z0
                  clear hW3 x0 x1 x2 x3
                  have z0' := (z3 : W3.drew.cell? (bd.add k) = some (strV m))
                  have y0 : W3.drew.cell? ⟨wr.heap.size, 0, none⟩ = some (strV fn) := K3.drew.cell.1 0
                  have y1 : W3.drew.cell? ⟨wr.heap.size, 1, none⟩ = some (.int .i64 fl) := K3.drew.cell.1 1
                  have HX := Lib.hid (⟨y0, y1, z0'⟩ : W3.drew.cell? ⟨wr.heap.size, 0, none⟩ = some (strV fn) ∧ W3.drew.cell? ⟨wr.heap.size, 1, none⟩ = some (.int .i64 fl) ∧ W3.drew.cell? (bd.add k) = some (strV m))
                  have HK3 := Lib.hid K3
                  clear z0' y0 y1 z3 K3 z0
                  have HBADF := Lib.hid (fun (hb : Pl.fileOk (fn, fl, fsm) m = false) => Pl.sheetOk_false (s := s) (fun h => by
                    have := Pl.filesOk_at s.files (Pl.names s.c) h.2.2.2.2.2 k (fn, fl, fsm) m (by rw [HFS.out]; exact HF.out) (by rw [HNS.out]; exact HM.out)
                    rw [hb] at this
                    cases this))
                  have HBB := Lib.hid (bthen HB2.out HB3.out).drew
                  by_cases hn : fn = m
                  · subst hn
                    have dn : (!(fn == fn)) = false := by simp
                    by_cases h0 : fl < 0
                    · have d0 : decide (fl < 0) = true := by simp; omega
                      refine wp_region_noPanic ?_
                      refine wp_region_held_drew (S := (fun W => W.cell? ⟨wr.heap.size, 0, none⟩ = some (strV fn) ∧ W.cell? ⟨wr.heap.size, 1, none⟩ = some (.int .i64 fl) ∧ W.cell? (bd.add k) = some (strV fn))) (by kernel_rfl) ?_ (fun hHeld => ?_)
                      · first | exact trivial | ((try dsimp only); exact HX.out)
                      refine wpAnyH_take (i := 0) (oi := ?oib0) (v := ?vb0) ?hib0 (by kernel_rfl) (by kernel_rfl) (by kernel_rfl) (fun _ _ _ h => h) (Or.inl ⟨?wtb0, ?hyb0⟩) (by assumption) ?restb0
                      case hib0 => (simp only [List.getElem?_toArray, List.getElem?_cons_succ, List.getElem?_cons_zero]; rfl)
                      case wtb0 => rfl
                      case hyb0 => (intro w hSw; (try dsimp only at hSw); go_simp) <;> (first | done | with_reducible rfl)
                      (try simp only [Act.put, List.setIfInBounds_toArray, List.set_cons_zero, List.set_cons_succ])
                      refine wpAnyH_take (i := 1) (oi := ?oib1) (v := ?vb1) ?hib1 (by kernel_rfl) (by kernel_rfl) (by kernel_rfl) (fun _ _ _ h => h) (Or.inl ⟨?wtb1, ?hyb1⟩) (by assumption) ?restb1
                      case hib1 => (simp only [List.getElem?_toArray, List.getElem?_cons_succ, List.getElem?_cons_zero]; rfl)
                      case wtb1 => rfl
                      case hyb1 => (intro w hSw; (try dsimp only at hSw); go_simp) <;> (first | done | with_reducible rfl)
                      (try simp only [Act.put, List.setIfInBounds_toArray, List.set_cons_zero, List.set_cons_succ])
                      refine wpAnyH_take (i := 2) (oi := ?oib2) (v := ?vb2) ?hib2 (by kernel_rfl) (by kernel_rfl) (by kernel_rfl) (fun _ _ _ h => h) (Or.inl ⟨?wtb2, ?hyb2⟩) (by assumption) ?restb2
                      case hib2 => (simp only [List.getElem?_toArray, List.getElem?_cons_succ, List.getElem?_cons_zero]; rfl)
                      case wtb2 => rfl
                      case hyb2 => (intro w hSw; (try dsimp only at hSw); go_simp) <;> (first | done | with_reducible rfl)
                      (try simp only [Act.put, List.setIfInBounds_toArray, List.set_cons_zero, List.set_cons_succ])
                      refine wpAnyH_take (i := 3) (oi := ?oib3) (v := ?vb3) ?hib3 (by kernel_rfl) (by kernel_rfl) (by kernel_rfl) (fun _ _ _ h => h) (Or.inl ⟨?wtb3, ?hyb3⟩) (by assumption) ?restb3
                      case hib3 => (simp only [List.getElem?_toArray, List.getElem?_cons_succ, List.getElem?_cons_zero]; rfl)
                      case wtb3 => rfl
                      case hyb3 => (intro w hSw; (try dsimp only at hSw); go_simp) <;> (first | done | with_reducible rfl)
                      (try simp only [Act.put, List.setIfInBounds_toArray, List.set_cons_zero, List.set_cons_succ])
                      refine wpAnyH_take (i := 4) (oi := ?oib4) (v := ?vb4) ?hib4 (by kernel_rfl) (by kernel_rfl) (by kernel_rfl) (fun _ _ _ h => h) (Or.inl ⟨?wtb4, ?hyb4⟩) (by assumption) ?restb4
                      case hib4 => (simp only [List.getElem?_toArray, List.getElem?_cons_succ, List.getElem?_cons_zero]; rfl)
                      case wtb4 => rfl
                      case hyb4 => (intro w hSw; (try dsimp only at hSw); go_simp) <;> (first | done | with_reducible rfl)
                      (try simp only [Act.put, List.setIfInBounds_toArray, List.set_cons_zero, List.set_cons_succ])
                      refine wpAnyH_take (i := 5) (oi := ?oib5) (v := ?vb5) ?hib5 (by kernel_rfl) (by kernel_rfl) (by kernel_rfl) (fun _ _ _ h => h) (Or.inl ⟨?wtb5, ?hyb5⟩) (by assumption) ?restb5
                      case hib5 => (simp only [List.getElem?_toArray, List.getElem?_cons_succ, List.getElem?_cons_zero]; rfl)
                      case wtb5 => rfl
                      case hyb5 => (intro w hSw; (try dsimp only at hSw); go_simp) <;> (first | done | with_reducible rfl)
                      (try simp only [Act.put, List.setIfInBounds_toArray, List.set_cons_zero, List.set_cons_succ])
                      refine wpAnyH_take (i := 6) (oi := ?oib6) (v := ?vb6) ?hib6 (by kernel_rfl) (by kernel_rfl) (by kernel_rfl) (fun _ _ _ h => h) (Or.inl ⟨?wtb6, ?hyb6⟩) (by assumption) ?restb6
                      case hib6 => (simp only [List.getElem?_toArray, List.getElem?_cons_succ, List.getElem?_cons_zero]; rfl)
                      case wtb6 => rfl
                      case hyb6 => (intro w hSw; (try dsimp only at hSw); go_simp) <;> (first | done | with_reducible rfl)
                      (try simp only [Act.put, List.setIfInBounds_toArray, List.set_cons_zero, List.set_cons_succ])
                      refine wpAnyH_take (i := 7) (oi := ?oib7) (v := ?vb7) ?hib7 (by kernel_rfl) (by kernel_rfl) (by kernel_rfl) (fun _ _ _ h => h) (Or.inl ⟨?wtb7, ?hyb7⟩) (by assumption) ?restb7
                      case hib7 => (simp only [List.getElem?_toArray, List.getElem?_cons_succ, List.getElem?_cons_zero]; rfl)
                      case wtb7 => rfl
                      case hyb7 => (intro w hSw; (try dsimp only at hSw); go_simp) <;> (first | done | with_reducible rfl)
                      (try simp only [Act.put, List.setIfInBounds_toArray, List.set_cons_zero, List.set_cons_succ])
                      refine wpAnyH_take (i := 8) (oi := ?oib8) (v := ?vb8) ?hib8 (by kernel_rfl) (by kernel_rfl) (by kernel_rfl) (fun _ _ _ h => h) (Or.inl ⟨?wtb8, ?hyb8⟩) (by assumption) ?restb8
                      case hib8 => (simp only [List.getElem?_toArray, List.getElem?_cons_succ, List.getElem?_cons_zero]; rfl)
                      case wtb8 => rfl
                      case hyb8 => (intro w hSw; (try dsimp only at hSw); go_simp) <;> (first | done | with_reducible rfl)
                      (try simp only [Act.put, List.setIfInBounds_toArray, List.set_cons_zero, List.set_cons_succ])
                      refine wpAnyH_take (i := 9) (oi := ?oib9) (v := ?vb9) ?hib9 (by kernel_rfl) (by kernel_rfl) (by kernel_rfl) (fun _ _ _ h => h) (Or.inl ⟨?wtb9, ?hyb9⟩) (by assumption) ?restb9
                      case hib9 => (simp only [List.getElem?_toArray, List.getElem?_cons_succ, List.getElem?_cons_zero]; rfl)
                      case wtb9 => rfl
                      case hyb9 => (intro w hSw; (try dsimp only at hSw); go_simp) <;> (first | done | with_reducible rfl)
                      (try simp only [Act.put, List.setIfInBounds_toArray, List.set_cons_zero, List.set_cons_succ])
                      refine wpAnyH_take (i := 10) (oi := ?oib10) (v := ?vb10) ?hib10 (by kernel_rfl) (by kernel_rfl) (by kernel_rfl) (fun _ _ _ h => h) (Or.inl ⟨?wtb10, ?hyb10⟩) (by assumption) ?restb10
                      case hib10 => (simp only [List.getElem?_toArray, List.getElem?_cons_succ, List.getElem?_cons_zero]; rfl)
                      case wtb10 => rfl
                      case hyb10 => (intro w hSw; (try dsimp only at hSw); go_simp) <;> (first | done | with_reducible rfl)
                      (try simp only [Act.put, List.setIfInBounds_toArray, List.set_cons_zero, List.set_cons_succ])
                      refine wpAnyH_take (i := 11) (oi := ?oib11) (v := ?vb11) ?hib11 (by kernel_rfl) (by kernel_rfl) (by kernel_rfl) (fun _ _ _ h => h) (Or.inl ⟨?wtb11, ?hyb11⟩) (by assumption) ?restb11
                      case hib11 => (simp only [List.getElem?_toArray, List.getElem?_cons_succ, List.getElem?_cons_zero]; rfl)
                      case wtb11 => rfl
                      case hyb11 => (intro w hSw; (try dsimp only at hSw); go_simp) <;> (first | done | with_reducible rfl)
                      (try simp only [Act.put, List.setIfInBounds_toArray, List.set_cons_zero, List.set_cons_succ])
                      refine wpAnyH_take (i := 12) (oi := ?oib12) (v := ?vb12) ?hib12 (by kernel_rfl) (by kernel_rfl) (by kernel_rfl) (fun _ _ _ h => h) (Or.inl ⟨?wtb12, ?hyb12⟩) (by assumption) ?restb12
                      case hib12 => (simp only [List.getElem?_toArray, List.getElem?_cons_succ, List.getElem?_cons_zero]; rfl)
                      case wtb12 => rfl
                      case hyb12 => (intro w hSw; (try dsimp only at hSw); go_simp) <;> (first | done | with_reducible rfl)
                      (try simp only [Act.put, List.setIfInBounds_toArray, List.set_cons_zero, List.set_cons_succ])
                      refine wpAnyH_take (i := 13) (oi := ?oib13) (v := undef) ?hib13 (by kernel_rfl) (by kernel_rfl) (by kernel_rfl) (fun _ _ _ h => h) (Or.inr ⟨?wtb13, rfl⟩) (by assumption) ?restb13
                      case hib13 => (simp only [List.getElem?_toArray, List.getElem?_cons_succ, List.getElem?_cons_zero]; rfl)
                      case wtb13 => rfl
                      (try simp only [Act.put, List.setIfInBounds_toArray, List.set_cons_zero, List.set_cons_succ])
                      refine wpAnyH_take (i := 14) (oi := ?oib14) (v := undef) ?hib14 (by kernel_rfl) (by kernel_rfl) (by kernel_rfl) (fun _ _ _ h => h) (Or.inr ⟨?wtb14, rfl⟩) (by assumption) ?restb14
                      case hib14 => (simp only [List.getElem?_toArray, List.getElem?_cons_succ, List.getElem?_cons_zero]; rfl)
                      case wtb14 => rfl
                      (try simp only [Act.put, List.setIfInBounds_toArray, List.set_cons_zero, List.set_cons_succ])
                      refine wpAnyH_take (i := 15) (oi := ?oib15) (v := undef) ?hib15 (by kernel_rfl) (by kernel_rfl) (by kernel_rfl) (fun _ _ _ h => h) (Or.inr ⟨?wtb15, rfl⟩) (by assumption) ?restb15
                      case hib15 => (simp only [List.getElem?_toArray, List.getElem?_cons_succ, List.getElem?_cons_zero]; rfl)
                      case wtb15 => rfl
                      (try simp only [Act.put, List.setIfInBounds_toArray, List.set_cons_zero, List.set_cons_succ])
                      refine wpAnyH_take (i := 16) (oi := ?oib16) (v := ?vb16) ?hib16 (by kernel_rfl) (by kernel_rfl) (by kernel_rfl) (fun _ _ _ h => h) (Or.inl ⟨?wtb16, ?hyb16⟩) (by assumption) ?restb16
                      case hib16 => (simp only [List.getElem?_toArray, List.getElem?_cons_succ, List.getElem?_cons_zero]; rfl)
                      case wtb16 => rfl
                      case hyb16 => (intro w hSw; (try dsimp only at hSw); go_simp) <;> (first | done | with_reducible rfl)
                      (try simp only [Act.put, List.setIfInBounds_toArray, List.set_cons_zero, List.set_cons_succ])
                      refine wpAnyH_done (by kernel_rfl) ?_ _
                      refine NoPanic.normal ?_
                      go_wp2_with fail
                      go_ret2
                      exact puts_no (HBADF.out (by simp [Pl.fileOk]; omega)) HBB.out
                    · have d0 : decide (fl < 0) = false := by simp; omega
                      by_cases h1 : 4611686018427387904 < fl
                      · have d1 : decide ((4611686018427387904 : Int) < fl) = true := by simp; omega
                        go_region_held3 (fun W => W.cell? ⟨wr.heap.size, 0, none⟩ = some (strV fn) ∧ W.cell? ⟨wr.heap.size, 1, none⟩ = some (.int .i64 fl) ∧ W.cell? (bd.add k) = some (strV fn)) (first | exact HX.out) (first | fail)
                        go_wp2_with fail
                        go_ret2
                        exact puts_no (HBADF.out (by simp [Pl.fileOk]; omega)) HBB.out
                      · have d1 : decide ((4611686018427387904 : Int) < fl) = false := by simp; omega
                        go_region_held3 (fun W => W.cell? ⟨wr.heap.size, 0, none⟩ = some (strV fn) ∧ W.cell? ⟨wr.heap.size, 1, none⟩ = some (.int .i64 fl) ∧ W.cell? (bd.add k) = some (strV fn)) (first | exact HX.out) (first | fail)
                        go_upto_region 10 with fail
                        have w1 : IntKind.u64.wrap fl = fl := IntWalk.u64_in _ (by omega)
                        have w2' : IntKind.u64.wrap fsm = fsm := IntWalk.u64_in _ (by omega)
                        have lp := Pl.putB_len10 (n := fl.toNat) (by omega)
                        obtain ⟨L6, hL6⟩ : ∃ L, M ++ Pl.putB fl.toNat = L := ⟨_, rfl⟩
                        have l6 : L6.length ≤ 1010 := by rw [← hL6]; simp; omega
                        have HE6 := Lib.hid hL6
                        have K4 := HK3.out.drew.drew
                        have HO4 := Lib.hid HO3.out.drew.drew
                        have HB4 := Lib.hid (HB3.out.drew.drew)
                        rename_i hheld1
                        clear hL6 lp hheld1 d0 d1 dn
                        go_region_held3 (fun W => W.cell? ⟨wr.heap.size, 1, none⟩ = some (.int .i64 fl) ∧ W.cell? ⟨wr.heap.size, 2, none⟩ = some (.int .u32 fsm)) (first | exact ⟨K7.cell.1 1, K7.cell.1 2⟩ | exact ⟨K6.cell.1 1, K6.cell.1 2⟩ | exact ⟨K4.cell.1 1, K4.cell.1 2⟩)
                          (first | (go_at_call 23; refine (fix_int _ L6 fsm _ ho6.rd g3 (by omega) (by omega)).mono ?_; rintro e w7 ⟨v7, rfl, ho7, hb7⟩; have K7 := K6.belowW hb7) | (go_at_call 24; refine (put_int _ M fl _ HO4.out.rd (by omega) (by omega) (by omega)).mono ?_; rintro e w6 ⟨v6, rfl, ho6, hb6⟩; rw [HE6.out] at ho6; obtain ⟨A6, c6, hv6⟩ := Kd.N_slice ho6; subst hv6; have K6 := K4.belowW hb6))
                        have hb46 := bthen HB4.out hb6
                        have HB7 := Lib.hid (bthen hb46 hb7)
                        have HO7 := Lib.hid (ho7.lower hb46.size)
                        have HS := Lib.hid (show L5 ++ (fs.take (k + 1)).flatMap Pl.fileB = L6 ++ Pl.fixB 4 fsm.toNat by
                          have e : fs.take (k + 1) = fs.take k ++ [(fn, fl, fsm)] := by rw [List.take_add_one, HF.out]; rfl
                          rw [e, List.flatMap_append, ← List.append_assoc, HMM.out, ← HE6.out]
                          simp [Pl.fileB])
                        have HOK2 := Lib.hid (show ∀ j f n, j < k + 1 → fs[j]? = some f → ns[j]? = some n → Pl.fileOk f n = true by
                          intro j f n hj h1 h2
                          by_cases hjk : j = k
                          · subst hjk
                            have e1 := HF.out.symm.trans h1
                            have e2 := HM.out.symm.trans h2
                            injection e1 with e1
                            injection e2 with e2
                            subst e1 e2
                            simp [Pl.fileOk]
                            omega
                          · exact HOK.out j f n (by omega) h1 h2)
                        clear ho6 hb6 ho7 hb7 K4 K6 K7 hb46
                        go_wp2_with fail
                        go_roundw
                        case rel => exact ⟨k + 1, by go_num, ⟨by omega⟩, ⟨HOK2.out⟩, ⟨by rw [HS.out]; exact HO7.out⟩, ⟨HB7.out⟩⟩
                        case measure => simp [intOf]; omega
                  · have dn : (!(fn == m)) = true := by simpa using hn
                    refine wp_region_noPanic ?_
                    refine wp_region_held_drew (S := (fun W => W.cell? ⟨wr.heap.size, 0, none⟩ = some (strV fn) ∧ W.cell? ⟨wr.heap.size, 1, none⟩ = some (.int .i64 fl) ∧ W.cell? (bd.add k) = some (strV m))) (by kernel_rfl) ?_ (fun hHeld => ?_)
                    · first | exact trivial | ((try dsimp only); exact HX.out)
                    refine wpAnyH_take (i := 0) (oi := ?oia0) (v := ?va0) ?hia0 (by kernel_rfl) (by kernel_rfl) (by kernel_rfl) (fun _ _ _ h => h) (Or.inl ⟨?wta0, ?hya0⟩) (by assumption) ?resta0
                    case hia0 => (simp only [List.getElem?_toArray, List.getElem?_cons_succ, List.getElem?_cons_zero]; rfl)
                    case wta0 => rfl
                    case hya0 => (intro w hSw; (try dsimp only at hSw); go_simp) <;> (first | done | with_reducible rfl)
                    (try simp only [Act.put, List.setIfInBounds_toArray, List.set_cons_zero, List.set_cons_succ])
                    refine wpAnyH_take (i := 1) (oi := ?oia1) (v := ?va1) ?hia1 (by kernel_rfl) (by kernel_rfl) (by kernel_rfl) (fun _ _ _ h => h) (Or.inl ⟨?wta1, ?hya1⟩) (by assumption) ?resta1
                    case hia1 => (simp only [List.getElem?_toArray, List.getElem?_cons_succ, List.getElem?_cons_zero]; rfl)
                    case wta1 => rfl
                    case hya1 => (intro w hSw; (try dsimp only at hSw); go_simp) <;> (first | done | with_reducible rfl)
                    (try simp only [Act.put, List.setIfInBounds_toArray, List.set_cons_zero, List.set_cons_succ])
                    refine wpAnyH_take (i := 2) (oi := ?oia2) (v := ?va2) ?hia2 (by kernel_rfl) (by kernel_rfl) (by kernel_rfl) (fun _ _ _ h => h) (Or.inl ⟨?wta2, ?hya2⟩) (by assumption) ?resta2
                    case hia2 => (simp only [List.getElem?_toArray, List.getElem?_cons_succ, List.getElem?_cons_zero]; rfl)
                    case wta2 => rfl
                    case hya2 => (intro w hSw; (try dsimp only at hSw); go_simp) <;> (first | done | with_reducible rfl)
                    (try simp only [Act.put, List.setIfInBounds_toArray, List.set_cons_zero, List.set_cons_succ])
                    refine wpAnyH_take (i := 3) (oi := ?oia3) (v := ?va3) ?hia3 (by kernel_rfl) (by kernel_rfl) (by kernel_rfl) (fun _ _ _ h => h) (Or.inl ⟨?wta3, ?hya3⟩) (by assumption) ?resta3
                    case hia3 => (simp only [List.getElem?_toArray, List.getElem?_cons_succ, List.getElem?_cons_zero]; rfl)
                    case wta3 => rfl
                    case hya3 => (intro w hSw; (try dsimp only at hSw); go_simp) <;> (first | done | with_reducible rfl)
                    (try simp only [Act.put, List.setIfInBounds_toArray, List.set_cons_zero, List.set_cons_succ])
                    refine wpAnyH_take (i := 4) (oi := ?oia4) (v := ?va4) ?hia4 (by kernel_rfl) (by kernel_rfl) (by kernel_rfl) (fun _ _ _ h => h) (Or.inl ⟨?wta4, ?hya4⟩) (by assumption) ?resta4
                    case hia4 => (simp only [List.getElem?_toArray, List.getElem?_cons_succ, List.getElem?_cons_zero]; rfl)
                    case wta4 => rfl
                    case hya4 => (intro w hSw; (try dsimp only at hSw); go_simp) <;> (first | done | with_reducible rfl)
                    (try simp only [Act.put, List.setIfInBounds_toArray, List.set_cons_zero, List.set_cons_succ])
                    refine wpAnyH_take (i := 5) (oi := ?oia5) (v := ?va5) ?hia5 (by kernel_rfl) (by kernel_rfl) (by kernel_rfl) (fun _ _ _ h => h) (Or.inl ⟨?wta5, ?hya5⟩) (by assumption) ?resta5
                    case hia5 => (simp only [List.getElem?_toArray, List.getElem?_cons_succ, List.getElem?_cons_zero]; rfl)
                    case wta5 => rfl
                    case hya5 => (intro w hSw; (try dsimp only at hSw); go_simp) <;> (first | done | with_reducible rfl)
                    (try simp only [Act.put, List.setIfInBounds_toArray, List.set_cons_zero, List.set_cons_succ])
                    refine wpAnyH_take (i := 6) (oi := ?oia6) (v := ?va6) ?hia6 (by kernel_rfl) (by kernel_rfl) (by kernel_rfl) (fun _ _ _ h => h) (Or.inl ⟨?wta6, ?hya6⟩) (by assumption) ?resta6
                    case hia6 => (simp only [List.getElem?_toArray, List.getElem?_cons_succ, List.getElem?_cons_zero]; rfl)
                    case wta6 => rfl
                    case hya6 => (intro w hSw; (try dsimp only at hSw); go_simp) <;> (first | done | with_reducible rfl)
                    (try simp only [Act.put, List.setIfInBounds_toArray, List.set_cons_zero, List.set_cons_succ])
                    refine wpAnyH_take (i := 7) (oi := ?oia7) (v := ?va7) ?hia7 (by kernel_rfl) (by kernel_rfl) (by kernel_rfl) (fun _ _ _ h => h) (Or.inl ⟨?wta7, ?hya7⟩) (by assumption) ?resta7
                    case hia7 => (simp only [List.getElem?_toArray, List.getElem?_cons_succ, List.getElem?_cons_zero]; rfl)
                    case wta7 => rfl
                    case hya7 => (intro w hSw; (try dsimp only at hSw); go_simp) <;> (first | done | with_reducible rfl)
                    (try simp only [Act.put, List.setIfInBounds_toArray, List.set_cons_zero, List.set_cons_succ])
                    refine wpAnyH_take (i := 8) (oi := ?oia8) (v := undef) ?hia8 (by kernel_rfl) (by kernel_rfl) (by kernel_rfl) (fun _ _ _ h => h) (Or.inr ⟨?wta8, rfl⟩) (by assumption) ?resta8
                    case hia8 => (simp only [List.getElem?_toArray, List.getElem?_cons_succ, List.getElem?_cons_zero]; rfl)
                    case wta8 => rfl
                    (try simp only [Act.put, List.setIfInBounds_toArray, List.set_cons_zero, List.set_cons_succ])
                    refine wpAnyH_take (i := 9) (oi := ?oia9) (v := undef) ?hia9 (by kernel_rfl) (by kernel_rfl) (by kernel_rfl) (fun _ _ _ h => h) (Or.inr ⟨?wta9, rfl⟩) (by assumption) ?resta9
                    case hia9 => (simp only [List.getElem?_toArray, List.getElem?_cons_succ, List.getElem?_cons_zero]; rfl)
                    case wta9 => rfl
                    (try simp only [Act.put, List.setIfInBounds_toArray, List.set_cons_zero, List.set_cons_succ])
                    refine wpAnyH_take (i := 10) (oi := ?oia10) (v := undef) ?hia10 (by kernel_rfl) (by kernel_rfl) (by kernel_rfl) (fun _ _ _ h => h) (Or.inr ⟨?wta10, rfl⟩) (by assumption) ?resta10
                    case hia10 => (simp only [List.getElem?_toArray, List.getElem?_cons_succ, List.getElem?_cons_zero]; rfl)
                    case wta10 => rfl
                    (try simp only [Act.put, List.setIfInBounds_toArray, List.set_cons_zero, List.set_cons_succ])
                    refine wpAnyH_take (i := 11) (oi := ?oia11) (v := ?va11) ?hia11 (by kernel_rfl) (by kernel_rfl) (by kernel_rfl) (fun _ _ _ h => h) (Or.inl ⟨?wta11, ?hya11⟩) (by assumption) ?resta11
                    case hia11 => (simp only [List.getElem?_toArray, List.getElem?_cons_succ, List.getElem?_cons_zero]; rfl)
                    case wta11 => rfl
                    case hya11 => (intro w hSw; (try dsimp only at hSw); go_simp) <;> (first | done | with_reducible rfl)
                    (try simp only [Act.put, List.setIfInBounds_toArray, List.set_cons_zero, List.set_cons_succ])
                    refine wpAnyH_take (i := 12) (oi := ?oia12) (v := ?va12) ?hia12 (by kernel_rfl) (by kernel_rfl) (by kernel_rfl) (fun _ _ _ h => h) (Or.inl ⟨?wta12, ?hya12⟩) (by assumption) ?resta12
                    case hia12 => (simp only [List.getElem?_toArray, List.getElem?_cons_succ, List.getElem?_cons_zero]; rfl)
                    case wta12 => rfl
                    case hya12 => (intro w hSw; (try dsimp only at hSw); go_simp) <;> (first | done | with_reducible rfl)
                    (try simp only [Act.put, List.setIfInBounds_toArray, List.set_cons_zero, List.set_cons_succ])
                    refine wpAnyH_take (i := 13) (oi := ?oia13) (v := undef) ?hia13 (by kernel_rfl) (by kernel_rfl) (by kernel_rfl) (fun _ _ _ h => h) (Or.inr ⟨?wta13, rfl⟩) (by assumption) ?resta13
                    case hia13 => (simp only [List.getElem?_toArray, List.getElem?_cons_succ, List.getElem?_cons_zero]; rfl)
                    case wta13 => rfl
                    (try simp only [Act.put, List.setIfInBounds_toArray, List.set_cons_zero, List.set_cons_succ])
                    refine wpAnyH_take (i := 14) (oi := ?oia14) (v := undef) ?hia14 (by kernel_rfl) (by kernel_rfl) (by kernel_rfl) (fun _ _ _ h => h) (Or.inr ⟨?wta14, rfl⟩) (by assumption) ?resta14
                    case hia14 => (simp only [List.getElem?_toArray, List.getElem?_cons_succ, List.getElem?_cons_zero]; rfl)
                    case wta14 => rfl
                    (try simp only [Act.put, List.setIfInBounds_toArray, List.set_cons_zero, List.set_cons_succ])
                    refine wpAnyH_take (i := 15) (oi := ?oia15) (v := undef) ?hia15 (by kernel_rfl) (by kernel_rfl) (by kernel_rfl) (fun _ _ _ h => h) (Or.inr ⟨?wta15, rfl⟩) (by assumption) ?resta15
                    case hia15 => (simp only [List.getElem?_toArray, List.getElem?_cons_succ, List.getElem?_cons_zero]; rfl)
                    case wta15 => rfl
                    (try simp only [Act.put, List.setIfInBounds_toArray, List.set_cons_zero, List.set_cons_succ])
                    refine wpAnyH_take (i := 16) (oi := ?oia16) (v := ?va16) ?hia16 (by kernel_rfl) (by kernel_rfl) (by kernel_rfl) (fun _ _ _ h => h) (Or.inl ⟨?wta16, ?hya16⟩) (by assumption) ?resta16
                    case hia16 => (simp only [List.getElem?_toArray, List.getElem?_cons_succ, List.getElem?_cons_zero]; rfl)
                    case wta16 => rfl
                    case hya16 => (intro w hSw; (try dsimp only at hSw); go_simp) <;> (first | done | with_reducible rfl)
                    (try simp only [Act.put, List.setIfInBounds_toArray, List.set_cons_zero, List.set_cons_succ])
                    refine wpAnyH_done (by kernel_rfl) ?_ _
                    refine NoPanic.normal ?_
                    go_wp2_with fail
                    go_ret2
                    exact puts_no (HBADF.out (by simp [Pl.fileOk, hn])) HBB.out
                · obtain rfl : k = ns.length := by have := hk.out; omega
                  have hdk : ¬ (ns.length < s.files.length) := by have := HT.out.1; omega
                  have hdk3 : ¬ ((ns.length : Int) < (s.files.length : Int)) := by omega
                  have hdk2 : decide (ns.length < s.files.length) = false := by simp; omega
                  go_wp2_with fail
                  clear hdk2 hdk3
                  refine (seal_any _ M _ HO.out.rd (by omega)).mono ?_
                  rintro e w9 ⟨v9, rfl, ho9, hb9⟩
                  have HGOOD := Lib.hid ((Pl.sheetOk_iff s).2 ⟨HR.out, HT.out.2.1, HT.out.2.2.1, HT.out.2.2.2.1, HT.out.2.2.2.2, by
                    rw [HFS.out, HNS.out]
                    exact Pl.filesOk_all fs ns HFL.out (fun j f n h1 h2 => HOK.out j f n (by have := (List.getElem?_eq_some_iff.1 h2).1; omega) h1 h2)⟩)
                  have HSB := Lib.hid (show Pl.sheetB s = M by
                    rw [Pl.sheetB, HE.out.1, HE.out.2.1, HE.out.2.2, HFS.out, ← HMM.out, List.take_of_length_le (by have := HFL.out; omega)])
                  have HO9 := Lib.hid (ho9.lower (b := w.heap.size) (Nat.le_trans HB2.out.size hsz2))
                  have HB9 := Lib.hid (bthen (bthen HB2.out HB.out) hb9)
                  clear ho9 hb9 hdk
                  go_wp2_with fail
                  go_ret2
                  refine ⟨_, by rw [HGOOD.out]; rfl, ?_, HB9.out⟩
                  rw [HGOOD.out, HSB.out]
                  exact HO9.out
            · have dt5 : decide ((4611686018427387904 : Int) < s.edg) = true := by simp; omega
              have HBAD := Lib.hid (Pl.sheetOk_false (s := s) (fun h => t5 h.2.2.2.2.1))
              clear t1 t2 t3 t4 t5
              go_wp2_with fail
              go_ret2
              exact puts_no HBAD.out HB2.out
          · have dt4 : decide (s.edg < 0) = true := by simp; omega
            have HBAD := Lib.hid (Pl.sheetOk_false (s := s) (fun h => t4 h.2.2.2.1))
            clear t1 t2 t3 t4
            go_wp2_with fail
            go_ret2
            exact puts_no HBAD.out HB2.out
        · have dt3 : decide ((4294967296 : Int) < s.lab) = true := by simp; omega
          have HBAD := Lib.hid (Pl.sheetOk_false (s := s) (fun h => t3 h.2.2.1))
          clear t1 t2 t3
          go_wp2_with fail
          go_ret2
          exact puts_no HBAD.out HB2.out
      · have dt2 : decide (s.lab < 0) = true := by simp; omega
        have HBAD := Lib.hid (Pl.sheetOk_false (s := s) (fun h => t2 h.2.1))
        clear t1 t2
        go_wp2_with fail
        go_ret2
        exact puts_no HBAD.out HB2.out
    · have dt1 : ((s.files.length : Int) != (ns.length : Int)) = true := by simp only [bne_iff_ne, ne_eq]; omega
      have HBAD := Lib.hid (Pl.sheetOk_false (s := s) (fun h => t1 (by rw [← HNS.out]; exact Pl.filesOk_len _ _ h.2.2.2.2.2)))
      clear t1
      go_wp2_with fail
      go_ret2
      exact puts_no HBAD.out HB2.out
end Go.Proofs.YtfppbkpdpapemaaDoor
