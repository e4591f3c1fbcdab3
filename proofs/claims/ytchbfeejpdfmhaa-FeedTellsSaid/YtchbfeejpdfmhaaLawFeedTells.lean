import Derived.Test.YtchbfeejpdfmhaaRFeed
import Derived.Test.YtchbfeejpdfmhaaFeedCfg
/-! The law FeedTells, walked. -/
set_option linter.unusedSimpArgs false
set_option linter.unusedVariables false
namespace Go.Proofs.Ytchbfeejpdfmhaa
open Go.RowKit Go.Shelf Go.Proofs.YtchbfeejpdfmhaaW.PrintWords Go.Proofs.YtchbfeejpdfmhaaW.PrintLast Go.Proofs.YtchbfeejpdfmhaaW.PrintMore
attribute [local go_sem] max2_int min2_int max_two min_two

set_option maxRecDepth 100000 in
set_option maxHeartbeats 4000000 in
theorem feedTells_walk (v : Value) (b : List UInt8) (c : Pl.Cfg) (w : World) (hv : Rd kb w v b) (_ : b.length ≤ 140737488351232) (_ : CfgIn c) :
    Calls Try.prog 8 #[v, cfgV c] w fun e w' => e = .returned (.bool true) ∧ Below w.heap.size w w' := by
  have HRAW := Lib.hid (rraw11_of rlist10_any)
  have HR := Lib.hid hv
  obtain ⟨A0, c0, rfl, hc0, _⟩ := hv
  go_enter Try.func8, Try.ntmps8
  obtain ⟨l, hll⟩ : ∃ l, b.take 1000 = l := ⟨_, rfl⟩
  have hl2 : l.length ≤ 1000 := by rw [← hll]; simp; omega
  have hl3 : l.length ≤ 1048576 := by omega
  have HLL := Lib.hid hll
  clear hll
  go_upto_region 1 with fail
  refine wp_at fun W2 hW1 => ?_
  have hb1 : Below w.heap.size w W2 := by rw [← hW1]; exact below_alloc (Below.refl _ _) _
  have K2 : Blk W2 w.heap.size (cfgC c) 40 := by rw [← hW1]; exact Blk.new _ _ _
  clear hW1
  have hlt2 : w.heap.size < W2.drew.heap.size := K2.lt
  have HBD : Below w.heap.size w W2.drew := hb1.drew
  have KH2 := Lib.hid (cfgAt_of K2.drew)
  go_region_held3 (fun W => W.cell? ⟨w.heap.size, 0, none⟩ = some (.int .u8 (c.fmt.toNat : Int)) ∧ W.cell? ⟨w.heap.size, 1, none⟩ = some (.bool c.num) ∧ W.cell? ⟨w.heap.size, 2, none⟩ = some (.bool c.skip) ∧ W.cell? ⟨w.heap.size, 3, none⟩ = some (.bool c.both) ∧ W.cell? ⟨w.heap.size, 4, none⟩ = some (.bool c.loops) ∧ W.cell? ⟨w.heap.size, 5, none⟩ = some (.bool c.back) ∧ W.cell? ⟨w.heap.size, 6, none⟩ = some (.int .i64 c.bud) ∧ W.cell? ⟨w.heap.size, 7, none⟩ = some (.int .i64 c.fan) ∧ W.cell? ⟨w.heap.size, 8, none⟩ = some (.int .i64 c.sha)) (first | exact KH2.out | exact cfgAt_below KH2.out hb5 hlt2)
    (first | (go_at_call 21; refine (few11_any _ b _ (Rd.below HR.out HBD)).mono ?_; rintro e w4 ⟨v4, rfl, hr4, rfl⟩; rw [HLL.out] at hr4; obtain ⟨A4, c4, hv4⟩ := Kd.V_slice hr4; subst hv4) | (go_at_call 20; refine (list11_any _ l c _ hr4 hl3).mono ?_; rintro e w5 ⟨v5, rfl, ho5, hb5⟩; obtain ⟨A5, c5, hv5⟩ := Kd.R_slice ho5; subst hv5))
  have K5 := K2.drew.belowW hb5
  have hbw5 := bthen hb1.drew hb5
  have hlt5 : w.heap.size < w5.drew.heap.size := K5.lt
  have KH5 := Lib.hid (cfgAt_of K5.drew)
  have HX5 := Lib.hid (Own.rd (Kd.R_N ho5))
  clear hr4 ho5 hb5 HBD KH2 hlt2 K2 hb1
  go_wp2_with fail
  have HBD : Below w.heap.size w w5.drew := hbw5.drew
  go_region_held3 (fun W => W.cell? ⟨w.heap.size, 0, none⟩ = some (.int .u8 (c.fmt.toNat : Int)) ∧ W.cell? ⟨w.heap.size, 1, none⟩ = some (.bool c.num) ∧ W.cell? ⟨w.heap.size, 2, none⟩ = some (.bool c.skip) ∧ W.cell? ⟨w.heap.size, 3, none⟩ = some (.bool c.both) ∧ W.cell? ⟨w.heap.size, 4, none⟩ = some (.bool c.loops) ∧ W.cell? ⟨w.heap.size, 5, none⟩ = some (.bool c.back) ∧ W.cell? ⟨w.heap.size, 6, none⟩ = some (.int .i64 c.bud) ∧ W.cell? ⟨w.heap.size, 7, none⟩ = some (.int .i64 c.fan) ∧ W.cell? ⟨w.heap.size, 8, none⟩ = some (.int .i64 c.sha)) (first | exact KH5.out | exact cfgAt_below KH5.out hb6 hlt5)
    (first | (go_at_call 21; refine (few11_any _ b _ (Rd.below HR.out HBD)).mono ?_; rintro e w4 ⟨v4, rfl, hr4, rfl⟩; rw [HLL.out] at hr4; obtain ⟨A4, c4, hv4⟩ := Kd.V_slice hr4; subst hv4) | (go_at_call 23; refine (fails_any _ l c _ hr4 hl3).mono ?_; rintro e w6 ⟨rfl, hb6⟩))
  have K6 := K5.drew.belowW hb6
  have hbw6 := bthen hbw5.drew hb6
  have hlt6 : w.heap.size < w6.drew.heap.size := K6.lt
  have KH6 := Lib.hid (cfgAt_of K6.drew)
  have HX6 := Lib.hid (Rd.below (Rd.below HX5.out (Below.refl _ _).drew) hb6)
  clear hr4 hb6 HBD KH5 hlt5 K5 hbw5 HX5
  go_wp2_with fail
  have HBD : Below w.heap.size w w6.drew := hbw6.drew
  go_region_held3 (fun W => W.cell? ⟨w.heap.size, 0, none⟩ = some (.int .u8 (c.fmt.toNat : Int)) ∧ W.cell? ⟨w.heap.size, 1, none⟩ = some (.bool c.num) ∧ W.cell? ⟨w.heap.size, 2, none⟩ = some (.bool c.skip) ∧ W.cell? ⟨w.heap.size, 3, none⟩ = some (.bool c.both) ∧ W.cell? ⟨w.heap.size, 4, none⟩ = some (.bool c.loops) ∧ W.cell? ⟨w.heap.size, 5, none⟩ = some (.bool c.back) ∧ W.cell? ⟨w.heap.size, 6, none⟩ = some (.int .i64 c.bud) ∧ W.cell? ⟨w.heap.size, 7, none⟩ = some (.int .i64 c.fan) ∧ W.cell? ⟨w.heap.size, 8, none⟩ = some (.int .i64 c.sha)) (first | exact KH6.out | exact cfgAt_below KH6.out hb7 hlt6)
    (first | (go_at_call 21; refine (few11_any _ b _ (Rd.below HR.out HBD)).mono ?_; rintro e w4 ⟨v4, rfl, hr4, rfl⟩; rw [HLL.out] at hr4; obtain ⟨A4, c4, hv4⟩ := Kd.V_slice hr4; subst hv4) | (go_at_call 24; refine (rfails11_of HRAW.out _ l c _ hr4 hl2).mono ?_; rintro e w7 ⟨rfl, hb7⟩))
  have K7 := K6.drew.belowW hb7
  have hbw7 := bthen hbw6.drew hb7
  have hlt7 : w.heap.size < w7.drew.heap.size := K7.lt
  have hlt70 : w.heap.size < w7.heap.size := K7.lt
  have KH7 := Lib.hid (cfgAt_of K7.drew)
  have KH70 := Lib.hid (cfgAt_of K7)
  have HX7 := Lib.hid (Rd.below (Rd.below HX6.out (Below.refl _ _).drew) hb7)
  clear hr4 hb7 HBD KH6 hlt6 K6 hbw6 HX6
  obtain ⟨e1, he1⟩ : ∃ z, (Pl.fails l c).1 = z := ⟨_, rfl⟩
  obtain ⟨e2, he2⟩ : ∃ z, (Pl.fails l c).2 = z := ⟨_, rfl⟩
  obtain ⟨rr, hrr⟩ : ∃ z, Pl.right c = z := ⟨_, rfl⟩
  have HRR := Lib.hid hrr
  rw [he1, he2]
  have t1 : (e1 == e1) = true := by simp
  have t2 : (e2 == e2) = true := by simp
  have t3 : (rr == rr) = true := by simp
  have HBW := Lib.hid hbw7
  clear he1 he2 hrr K7 hbw7
  go_wp2_with fail
  go_region_held3 (fun W => W.cell? ⟨w.heap.size, 0, none⟩ = some (.int .u8 (c.fmt.toNat : Int)) ∧ W.cell? ⟨w.heap.size, 1, none⟩ = some (.bool c.num) ∧ W.cell? ⟨w.heap.size, 2, none⟩ = some (.bool c.skip) ∧ W.cell? ⟨w.heap.size, 3, none⟩ = some (.bool c.both) ∧ W.cell? ⟨w.heap.size, 4, none⟩ = some (.bool c.loops) ∧ W.cell? ⟨w.heap.size, 5, none⟩ = some (.bool c.back) ∧ W.cell? ⟨w.heap.size, 6, none⟩ = some (.int .i64 c.bud) ∧ W.cell? ⟨w.heap.size, 7, none⟩ = some (.int .i64 c.fan) ∧ W.cell? ⟨w.heap.size, 8, none⟩ = some (.int .i64 c.sha)) (first | exact KH7.out | exact KH70.out | exact cfgAt_below KH70.out hB5 hlt70 | exact cfgAt_below KH70.out hB4 hlt70 | exact cfgAt_below KH70.out hB3 hlt70 | exact cfgAt_below KH70.out hB2 hlt70 | exact cfgAt_below KH70.out hB1 hlt70)
    (first | (go_at_call 18; refine (shown11_any _).mono ?_; rintro e w8 ⟨rfl, hb8⟩; (first | (have hB1 := bthen (Below.refl w7.heap.size w7).drew hb8) | (have hB1 := hb8))) | (go_at_call 25; refine (right_any c _).mono ?_; rw [HRR.out]; rintro e w9 ⟨rfl, hb9⟩; have hB2 := bthen hB1 hb9) | (go_at_call 26; refine (rright11_any c _).mono ?_; rw [HRR.out]; rintro e w10 ⟨rfl, hb10⟩; have hB3 := bthen hB2 hb10; have HBD := bthen HBW.out hB3) | (go_at_call 21; refine (few11_any _ b _ (Rd.below HR.out HBD)).mono ?_; rintro e w4 ⟨v4, rfl, hr4, rfl⟩; rw [HLL.out] at hr4; obtain ⟨A4, c4, hv4⟩ := Kd.V_slice hr4; subst hv4) | (go_at_call 27; refine (rlist11_of HRAW.out _ l c _ hr4 hl2).mono ?_; rintro e w11 ⟨v11, rfl, ho11, hb11⟩; obtain ⟨A11, c11, hv11⟩ := Kd.N_slice ho11; subst hv11; have hB4 := bthen hB3 hb11) | (go_at_call 13; refine (sameAll_any _ _ _ _ (Rd.below HX7.out hB4) ho11.rd).mono ?_; rintro e w12 ⟨rfl, hb12⟩; have hB5 := bthen hB4 hb12))
  go_wp2_with fail
  go_ret
  exact ⟨rfl, bthen HBW.out (by first | exact hB5 | exact hB5.drew)⟩
end Go.Proofs.Ytchbfeejpdfmhaa
