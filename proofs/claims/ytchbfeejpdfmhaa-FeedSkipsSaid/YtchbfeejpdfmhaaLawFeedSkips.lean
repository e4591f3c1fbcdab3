import Derived.Test.YtchbfeejpdfmhaaFeedCfg
/-! The law FeedSkips, walked. -/
set_option linter.unusedSimpArgs false
set_option linter.unusedVariables false
namespace Go.Proofs.Ytchbfeejpdfmhaa
open Go.RowKit Go.Shelf Go.Proofs.YtchbfeejpdfmhaaW.PrintWords Go.Proofs.YtchbfeejpdfmhaaW.PrintLast Go.Proofs.YtchbfeejpdfmhaaW.PrintMore
attribute [local go_sem] max2_int min2_int max_two min_two

set_option maxRecDepth 100000 in
set_option maxHeartbeats 4000000 in
theorem feedSkips_walk (v : Value) (b : List UInt8) (c : Pl.Cfg) (w : World) (hv : Rd kb w v b) (_ : b.length ≤ 140737488351232) (_ : CfgIn c) :
    Calls Try.prog 9 #[v, cfgV c] w fun e w' => e = .returned (.bool true) ∧ Below w.heap.size w w' := by
  have HR := Lib.hid hv
  obtain ⟨A0, c0, rfl, hc0, _⟩ := hv
  go_enter Try.func9, Try.ntmps9
  obtain ⟨l, hll⟩ : ∃ l, b.take 1000 = l := ⟨_, rfl⟩
  have hl2 : l.length ≤ 1000 := by rw [← hll]; simp; omega
  have hl3 : l.length ≤ 1048576 := by omega
  have HLL := Lib.hid hll
  clear hll
  obtain ⟨ca, hca⟩ : ∃ ca : Pl.Cfg, { c with skip := true } = ca := ⟨_, rfl⟩
  obtain ⟨cb, hcb⟩ : ∃ cb : Pl.Cfg, { c with skip := false } = cb := ⟨_, rfl⟩
  have HCA := Lib.hid hca
  have HCB := Lib.hid hcb
  have HLAW := Pl.skips_law l c
  rw [hca, hcb] at HLAW
  clear hca hcb
  go_wp2_with fail
  refine calls_at fun W1 hW1 => ?_
  have hb1 : Below w.heap.size w W1 := by rw [← hW1]; exact below_alloc (Below.refl _ _) _
  have K1 : Blk W1 w.heap.size (cfgC c) 40 := by rw [← hW1]; exact Blk.new _ _ _
  clear hW1
  refine (shown11_any _).mono ?_
  rintro e W2 ⟨rfl, hb2⟩
  have K2 := K1.belowW hb2
  have hbw2 := bthen hb1 hb2
  clear hb1 hb2 K1
  obtain ⟨k2, k2f⟩ := K2.cell
  go_wp2_with fail
  refine wp_at fun W3 hW3 => ?_
  have hbw3 : Below w.heap.size w W3 := by rw [← hW3]; exact hbw2.setCell (p := ⟨w.heap.size, 2, none⟩) (Nat.le_refl _) _
  have K3 : Blk W3 w.heap.size (cfgC ca) 40 := by rw [← hW3, ← HCA.out]; exact K2.set (cs' := cfgC { c with skip := true }) 2 (.bool true) rfl
  clear hW3 k2 k2f K2 hbw2
  have hlt3 : w.heap.size < W3.drew.heap.size := K3.lt
  have HBD : Below w.heap.size w W3.drew := hbw3.drew
  have KH3 := Lib.hid (cfgAt_of K3.drew)
  go_region_held3 (fun W => W.cell? ⟨w.heap.size, 0, none⟩ = some (.int .u8 (ca.fmt.toNat : Int)) ∧ W.cell? ⟨w.heap.size, 1, none⟩ = some (.bool ca.num) ∧ W.cell? ⟨w.heap.size, 2, none⟩ = some (.bool ca.skip) ∧ W.cell? ⟨w.heap.size, 3, none⟩ = some (.bool ca.both) ∧ W.cell? ⟨w.heap.size, 4, none⟩ = some (.bool ca.loops) ∧ W.cell? ⟨w.heap.size, 5, none⟩ = some (.bool ca.back) ∧ W.cell? ⟨w.heap.size, 6, none⟩ = some (.int .i64 ca.bud) ∧ W.cell? ⟨w.heap.size, 7, none⟩ = some (.int .i64 ca.fan) ∧ W.cell? ⟨w.heap.size, 8, none⟩ = some (.int .i64 ca.sha)) (first | exact KH3.out | exact cfgAt_below KH3.out hb5 hlt3)
    (first | (go_at_call 21; refine (few11_any _ b _ (Rd.below HR.out HBD)).mono ?_; rintro e w4 ⟨v4, rfl, hr4, rfl⟩; rw [HLL.out] at hr4; obtain ⟨A4, c4, hv4⟩ := Kd.V_slice hr4; subst hv4) | (go_at_call 20; refine (list11_any _ l ca _ hr4 hl3).mono ?_; rintro e w5 ⟨v5, rfl, ho5, hb5⟩; obtain ⟨A5, c5, hv5⟩ := Kd.R_slice ho5; subst hv5))
  have K5 := K3.drew.belowW hb5
  have hbw5 := bthen hbw3.drew hb5
  have hlt5 : w.heap.size < w5.drew.heap.size := K5.lt
  have KH5 := Lib.hid (cfgAt_of K5.drew)
  have HO5 := Lib.hid ho5
  have hbs : w.heap.size < W3.drew.heap.size := hlt3
  obtain ⟨B5, hB5⟩ : ∃ B5, W3.drew.heap.size = B5 := ⟨_, rfl⟩
  rw [hB5] at HO5 hbs
  clear hB5
  clear hr4 ho5 hb5 HBD KH3 hlt3 K3 hbw3
  go_wp2_with fail
  have HBD : Below w.heap.size w w5.drew := hbw5.drew
  go_region_held3 (fun W => W.cell? ⟨w.heap.size, 0, none⟩ = some (.int .u8 (ca.fmt.toNat : Int)) ∧ W.cell? ⟨w.heap.size, 1, none⟩ = some (.bool ca.num) ∧ W.cell? ⟨w.heap.size, 2, none⟩ = some (.bool ca.skip) ∧ W.cell? ⟨w.heap.size, 3, none⟩ = some (.bool ca.both) ∧ W.cell? ⟨w.heap.size, 4, none⟩ = some (.bool ca.loops) ∧ W.cell? ⟨w.heap.size, 5, none⟩ = some (.bool ca.back) ∧ W.cell? ⟨w.heap.size, 6, none⟩ = some (.int .i64 ca.bud) ∧ W.cell? ⟨w.heap.size, 7, none⟩ = some (.int .i64 ca.fan) ∧ W.cell? ⟨w.heap.size, 8, none⟩ = some (.int .i64 ca.sha)) (first | exact KH5.out | exact cfgAt_below KH5.out hb6 hlt5)
    (first | (go_at_call 21; refine (few11_any _ b _ (Rd.below HR.out HBD)).mono ?_; rintro e w4 ⟨v4, rfl, hr4, rfl⟩; rw [HLL.out] at hr4; obtain ⟨A4, c4, hv4⟩ := Kd.V_slice hr4; subst hv4) | (go_at_call 23; refine (fails_any _ l ca _ hr4 hl3).mono ?_; rintro e w6 ⟨rfl, hb6⟩))
  have K6 := K5.drew.belowW hb6
  have hbw6 := bthen hbw5.drew hb6
  have HO6 := Lib.hid (Kd.R_step HO5.out (fun k _ hk => hb6.block k hk))
  clear hr4 hb6 HBD KH5 hlt5 K5 hbw5 HO5
  have K6' : Blk w6 w.heap.size (cfgC { c with skip := true }) 40 := by rw [HCA.out]; exact K6
  obtain ⟨k6, k6f⟩ := K6.cell
  go_wp2_with fail
  refine wp_at fun W7 hW7 => ?_
  have hbx : Below w6.heap.size w6 w6 := Below.refl _ _
  have hbw7 : Below w.heap.size w W7 := by rw [← hW7]; exact hbw6.setCell (p := ⟨w.heap.size, 2, none⟩) (Nat.le_refl _) _
  have K7 : Blk W7 w.heap.size (cfgC cb) 40 := by rw [← hW7, ← HCB.out]; exact K6'.set (cs' := cfgC { c with skip := false }) 2 (.bool false) rfl
  have HO7 := Lib.hid (Kd.R_far (p := ⟨w.heap.size, 2, none⟩) HO6.out (fun k hk => by show k ≠ w.heap.size; omega) (.bool false))
  rw [hW7] at HO7
  clear hW7 hbx K6' K6 k6 k6f HO6 hbw6
  have hlt7 : w.heap.size < W7.drew.heap.size := K7.lt
  have HBD : Below w.heap.size w W7.drew := hbw7.drew
  have KH7 := Lib.hid (cfgAt_of K7.drew)
  go_region_held3 (fun W => W.cell? ⟨w.heap.size, 0, none⟩ = some (.int .u8 (cb.fmt.toNat : Int)) ∧ W.cell? ⟨w.heap.size, 1, none⟩ = some (.bool cb.num) ∧ W.cell? ⟨w.heap.size, 2, none⟩ = some (.bool cb.skip) ∧ W.cell? ⟨w.heap.size, 3, none⟩ = some (.bool cb.both) ∧ W.cell? ⟨w.heap.size, 4, none⟩ = some (.bool cb.loops) ∧ W.cell? ⟨w.heap.size, 5, none⟩ = some (.bool cb.back) ∧ W.cell? ⟨w.heap.size, 6, none⟩ = some (.int .i64 cb.bud) ∧ W.cell? ⟨w.heap.size, 7, none⟩ = some (.int .i64 cb.fan) ∧ W.cell? ⟨w.heap.size, 8, none⟩ = some (.int .i64 cb.sha)) (first | exact KH7.out | exact cfgAt_below KH7.out hb8 hlt7)
    (first | (go_at_call 21; refine (few11_any _ b _ (Rd.below HR.out HBD)).mono ?_; rintro e w4 ⟨v4, rfl, hr4, rfl⟩; rw [HLL.out] at hr4; obtain ⟨A4, c4, hv4⟩ := Kd.V_slice hr4; subst hv4) | (go_at_call 20; refine (list11_any _ l cb _ hr4 hl3).mono ?_; rintro e w8 ⟨v8, rfl, ho8, hb8⟩; obtain ⟨A8, c8, hv8⟩ := Kd.R_slice ho8; subst hv8))
  have K8 := K7.drew.belowW hb8
  have hbw8 := bthen hbw7.drew hb8
  have hlt8 : w.heap.size < w8.drew.heap.size := K8.lt
  have KH8 := Lib.hid (cfgAt_of K8.drew)
  have HX8 := Lib.hid (Own.rd (Kd.R_N (Kd.R_mono (Kd.R_step HO7.out (fun k _ hk => hb8.block k hk)) (fun k hk => hk))))
  have HY8 := Lib.hid (Own.rd (Kd.R_N ho8))
  clear hr4 ho8 hb8 HBD KH7 hlt7 K7 hbw7 HO7
  go_wp2_with fail
  have HBD : Below w.heap.size w w8.drew := hbw8.drew
  go_region_held3 (fun W => W.cell? ⟨w.heap.size, 0, none⟩ = some (.int .u8 (cb.fmt.toNat : Int)) ∧ W.cell? ⟨w.heap.size, 1, none⟩ = some (.bool cb.num) ∧ W.cell? ⟨w.heap.size, 2, none⟩ = some (.bool cb.skip) ∧ W.cell? ⟨w.heap.size, 3, none⟩ = some (.bool cb.both) ∧ W.cell? ⟨w.heap.size, 4, none⟩ = some (.bool cb.loops) ∧ W.cell? ⟨w.heap.size, 5, none⟩ = some (.bool cb.back) ∧ W.cell? ⟨w.heap.size, 6, none⟩ = some (.int .i64 cb.bud) ∧ W.cell? ⟨w.heap.size, 7, none⟩ = some (.int .i64 cb.fan) ∧ W.cell? ⟨w.heap.size, 8, none⟩ = some (.int .i64 cb.sha)) (first | exact KH8.out | exact cfgAt_below KH8.out hb9 hlt8)
    (first | (go_at_call 21; refine (few11_any _ b _ (Rd.below HR.out HBD)).mono ?_; rintro e w4 ⟨v4, rfl, hr4, rfl⟩; rw [HLL.out] at hr4; obtain ⟨A4, c4, hv4⟩ := Kd.V_slice hr4; subst hv4) | (go_at_call 23; refine (fails_any _ l cb _ hr4 hl3).mono ?_; rintro e w9 ⟨rfl, hb9⟩))
  have HB9 := Lib.hid (bthen hbw8.drew hb9)
  have HX9 := Lib.hid (Rd.below (Kd.V_drew HX8.out) hb9)
  have HY9 := Lib.hid (Rd.below (Kd.V_drew HY8.out) hb9)
  clear hr4 hb9 HBD KH8 hlt8 K8 hbw8 HX8 HY8
  have hxl := Pl.items_len l ca
  have hyl := Pl.items_len l cb
  obtain ⟨ea, hfa, hea, hgood, hcase⟩ := HLAW
  obtain ⟨xs, hxs⟩ : ∃ xs, Pl.items l ca = xs := ⟨_, rfl⟩
  obtain ⟨ys, hys⟩ : ∃ ys, Pl.items l cb = ys := ⟨_, rfl⟩
  obtain ⟨fa, hfa'⟩ : ∃ fa, Pl.fails l ca = fa := ⟨_, rfl⟩
  obtain ⟨fb, hfb'⟩ : ∃ fb, Pl.fails l cb = fb := ⟨_, rfl⟩
  rw [hxs] at hxl HX9 hcase hgood ⊢
  rw [hys] at hyl HY9 hcase ⊢
  rw [hfa'] at hfa ⊢
  rw [hfb'] at hcase ⊢
  clear hxs hys hfa' hfb'
  subst hfa
  simp only
  have HG := Lib.hid hgood
  have hxl2 : xs.length ≤ 1001 := by omega
  have hyl2 : ys.length ≤ 1001 := by omega
  clear hgood hxl hyl
  obtain ⟨Ax, cx, hvx, hcx, hFx⟩ := HX9.out
  injection hvx with hvx1 _ hvx2
  subst hvx1 hvx2
  obtain ⟨Ay, cy, hvy, hcy, hFy⟩ := HY9.out
  injection hvy with hvy1 _ hvy2
  subst hvy1 hvy2
  have HFX := Lib.hid hFx
  have HFY := Lib.hid hFy
  clear hFx hFy
  have HC := Lib.hid hcase
  clear hcase
  rcases hea with rfl | rfl
  all_goals
    go_wp2_with fail
    go_loopw [68] (fun i wr => ∃ k : Nat, i = .int .i64 (k : Int) ∧ Aside0 (k ≤ xs.length) ∧ Aside0 (Below w9.heap.size w9 wr)) (fun i _ => xs.length - (intOf i).toNat)
    case atStart => exact ⟨0, rfl, ⟨by omega⟩, ⟨Below.refl _ _⟩⟩
    case round =>
      obtain ⟨k, rfl, hk, HB⟩ := hrel
      by_cases hlt : k < xs.length
      · obtain ⟨x, hx⟩ : ∃ x, xs[k]? = some x := ⟨_, List.getElem?_eq_getElem hlt⟩
        obtain ⟨bd, B1, d1, B2, d2, hAb, hW1, hW2, y0, y1, y2, y3, y4⟩ := item_get HFX.out k x hx
        subst hAb
        rw [Pl.good_code (HG.out x (List.mem_of_getElem? hx))] at y3
        have hlB : (bd.add (k * 5)).block < w9.heap.size := World.block_lt_of_cell? _ _ y0
        have z0 := (HB.out.cell (p := bd.add (k * 5)) hlB).trans y0
        have z1 := (HB.out.cell (p := ⟨(bd.add (k * 5)).block, (bd.add (k * 5)).off + 1, none⟩) hlB).trans y1
        have z2 := (HB.out.cell (p := ⟨(bd.add (k * 5)).block, (bd.add (k * 5)).off + 2, none⟩) hlB).trans y2
        have z3 := (HB.out.cell (p := ⟨(bd.add (k * 5)).block, (bd.add (k * 5)).off + 3, none⟩) hlB).trans y3
        have z4 := (HB.out.cell (p := ⟨(bd.add (k * 5)).block, (bd.add (k * 5)).off + 4, none⟩) hlB).trans y4
        clear y0 y1 y2 y3 y4 hx hW1 hW2
        go_wp2_with fail
        go_roundw
        case rel => exact ⟨k + 1, by go_num, ⟨by omega⟩, ⟨HB.out.trans (below_alloc (Below.refl _ _) _ |>.mono HB.out.size)⟩⟩
        case measure => simp [intOf]; omega
      · obtain rfl : k = xs.length := by have := hk.out; omega
        have hd : decide ((xs.length : Int) < (xs.length : Int)) = false := by simp
        rcases HC.out with ⟨p, z, hyp, hzb, hfb, hpl, hpt⟩ | ⟨hyx, hfb⟩
        · subst hyp hfb
          obtain ⟨n, hpn⟩ : ∃ n, p.length = n := ⟨_, rfl⟩
          have hn : (p ++ [z]).length = n + 1 := by simp [hpn]
          have hz : (p ++ [z])[n]? = some z := by simp [← hpn]
          obtain ⟨cutx, hVx⟩ := item_to HFX.out hcx n (by omega)
          obtain ⟨cuty, hVy⟩ := item_to HFY.out hcy n (by omega)
          obtain ⟨bd, B1, d1, B2, d2, hAb, hW1, hW2, y0, y1, y2, y3, y4⟩ := item_get HFY.out n z hz
          subst hAb
          have hlB : (bd.add (n * 5)).block < w9.heap.size := World.block_lt_of_cell? _ _ y0
          have z0 := (HB.out.cell (p := bd.add (n * 5)) hlB).trans y0
          have z1 := (HB.out.cell (p := ⟨(bd.add (n * 5)).block, (bd.add (n * 5)).off + 1, none⟩) hlB).trans y1
          have z2 := (HB.out.cell (p := ⟨(bd.add (n * 5)).block, (bd.add (n * 5)).off + 2, none⟩) hlB).trans y2
          have z3 := (HB.out.cell (p := ⟨(bd.add (n * 5)).block, (bd.add (n * 5)).off + 3, none⟩) hlB).trans y3
          have z4 := (HB.out.cell (p := ⟨(bd.add (n * 5)).block, (bd.add (n * 5)).off + 4, none⟩) hlB).trans y4
          rw [← hpn, hpt] at hVx
          rw [← hpn, List.take_left] at hVy
          rw [hpn] at hVx hVy hpl
          have HVX := Lib.hid (Rd.below hVx HB.out)
          have HVY := Lib.hid (Rd.below hVy HB.out)
          rw [hn] at cuty hyl2
          have cutx' := cutx .i64 (n : Int) rfl
          have cuty' := cuty .i64 (n : Int) rfl
          have hzc : (z.2.2.2.1 != 0) = true := by
            unfold Pl.goodT at hzb
            simpa using hzb
          have hge : decide ((n : Int) ≤ (xs.length : Int)) = true := decide_eq_true (by omega)
          have hge2 : decide (n ≤ xs.length) = true := decide_eq_true (by omega)
          have hw1 : IntKind.i64.wrap ((n : Int) + 1 - 1) = (n : Int) := (IntWalk.i64_in _ (by omega)).trans (by omega)
          have hw2 : IntKind.i64.wrap (n : Int) = (n : Int) := IntWalk.i64_in _ (by omega)
          have hgt : decide ((0 : Int) < (n : Int) + 1) = true := decide_eq_true (by omega)
          have hq1 : (0 : Int) ≤ (n : Int) := by omega
          have hq2 : (n : Int) < (n : Int) + 1 := by omega
          rw [hn]
          clear y0 y1 y2 y3 y4 hW1 hW2 cutx cuty hVx hVy hpt hpn hn hz hzb
          go_wp2_with fail
          refine wp_at fun W1 hW1 => ?_
          have hB1 : Below wr.heap.size wr W1 := by rw [← hW1]; exact below_alloc (Below.refl _ _) _
          have KZ : Blk W1 wr.heap.size #[.bool z.1, .slice B1 z.2.1.length d1, .slice B2 z.2.2.1.length d2, .int .i64 z.2.2.2.1, .int .i64 z.2.2.2.2] 36 := by
            rw [← hW1]
            exact Blk.new wr _ 36
          clear hW1 z0 z1 z2 z3 z4
          have hltz : wr.heap.size < W1.drew.heap.size := KZ.lt
          have KHZ := Lib.hid (show W1.drew.cell? ⟨wr.heap.size, 3, none⟩ = some (.int .i64 z.2.2.2.1) ∧ W1.drew.cell? ⟨wr.heap.size, 4, none⟩ = some (.int .i64 z.2.2.2.2) from ⟨KZ.drew.cell.1 3, KZ.drew.cell.1 4⟩)
          have HBd := Lib.hid hB1.drew
          go_region_held3 (fun W => W.cell? ⟨wr.heap.size, 3, none⟩ = some (.int .i64 z.2.2.2.1) ∧ W.cell? ⟨wr.heap.size, 4, none⟩ = some (.int .i64 z.2.2.2.2)) (first | exact KHZ.out | exact ⟨(hbS.cell (p := ⟨wr.heap.size, 3, none⟩) hltz).trans KHZ.out.1, (hbS.cell (p := ⟨wr.heap.size, 4, none⟩) hltz).trans KHZ.out.2⟩)
            (first | (go_at_call 13; refine (sameAll_any _ _ p _ (Rd.below HVX.out HBd.out) (Rd.below HVY.out HBd.out)).mono ?_; rintro e wS ⟨rfl, hbS⟩))
          all_goals
            go_wp2
            go_ret
            exact ⟨rfl, HB9.out.trans ((bthen (HB.out.trans (HBd.out.mono HB.out.size)) hbS).mono HB9.out.size)⟩
        · subst hyx hfb
          by_cases hx0 : ys.length = 0
          · have hgt : decide ((0 : Int) < (ys.length : Int)) = false := decide_eq_false (by omega)
            have hgt2 : ¬ (0 : Int) < (ys.length : Int) := by omega
            have hgt3 : decide (0 < ys.length) = false := decide_eq_false (by omega)
            clear hx0
            go_wp2_with fail
            refine (sameAll_any _ _ ys _ (Rd.below HX9.out HB.out) (Rd.below HY9.out HB.out)).mono ?_
            rintro e wS ⟨rfl, hbS⟩
            go_wp2_with fail
            go_ret
            exact ⟨rfl, HB9.out.trans ((bthen HB.out hbS).mono HB9.out.size)⟩
          · obtain ⟨n, hpn⟩ : ∃ n, ys.length = n + 1 := ⟨ys.length - 1, by omega⟩
            obtain ⟨z, hz⟩ : ∃ z, ys[n]? = some z := ⟨_, List.getElem?_eq_getElem (by omega)⟩
            obtain ⟨bd, B1, d1, B2, d2, hAb, hW1, hW2, y0, y1, y2, y3, y4⟩ := item_get HFY.out n z hz
            subst hAb
            rw [Pl.good_code (HG.out z (List.mem_of_getElem? hz))] at y3
            have hlB : (bd.add (n * 5)).block < w9.heap.size := World.block_lt_of_cell? _ _ y0
            have z3 := (HB.out.cell (p := ⟨(bd.add (n * 5)).block, (bd.add (n * 5)).off + 3, none⟩) hlB).trans y3
            have hw1 : IntKind.i64.wrap ((n : Int) + 1 - 1) = (n : Int) := (IntWalk.i64_in _ (by omega)).trans (by omega)
            have hw2 : IntKind.i64.wrap (n : Int) = (n : Int) := IntWalk.i64_in _ (by omega)
            have hgt : decide ((0 : Int) < (n : Int) + 1) = true := decide_eq_true (by omega)
            have hq1 : (0 : Int) ≤ (n : Int) := by omega
            have hq2 : (n : Int) < (n : Int) + 1 := by omega
            have HXr := Lib.hid (Rd.below HX9.out HB.out)
            have HYr := Lib.hid (Rd.below HY9.out HB.out)
            have hcut : ∃ m, m = n + 1 ∧ ys.length = m := ⟨_, rfl, hpn⟩
            rw [hpn] at HXr HYr ⊢
            clear y0 y1 y2 y3 y4 hW1 hW2 hz hx0 hcut hpn
            go_wp2_with fail
            refine (sameAll_any _ _ ys _ HXr.out HYr.out).mono ?_
            rintro e wS ⟨rfl, hbS⟩
            go_wp2_with fail
            go_ret
            exact ⟨rfl, HB9.out.trans ((bthen HB.out hbS).mono HB9.out.size)⟩
end Go.Proofs.Ytchbfeejpdfmhaa
