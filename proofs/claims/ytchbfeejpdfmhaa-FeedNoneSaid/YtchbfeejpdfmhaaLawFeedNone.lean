import Derived.Test.YtchbfeejpdfmhaaFeedCfg
/-! The law FeedNone, walked. -/
set_option linter.unusedSimpArgs false
set_option linter.unusedVariables false
namespace Go.Proofs.Ytchbfeejpdfmhaa
open Go.RowKit Go.Shelf Go.Proofs.YtchbfeejpdfmhaaW.PrintWords Go.Proofs.YtchbfeejpdfmhaaW.PrintLast Go.Proofs.YtchbfeejpdfmhaaW.PrintMore
attribute [local go_sem] max2_int min2_int max_two min_two

set_option maxRecDepth 100000 in
set_option maxHeartbeats 4000000 in
theorem feedNone_walk (v : Value) (b : List UInt8) (c : Pl.Cfg) (w : World) (hv : Rd kb w v b) (_ : b.length ≤ 140737488351232) (_ : CfgIn c) :
    Calls Try.prog 10 #[v, cfgV c] w fun e w' => e = .returned (.bool true) ∧ Below w.heap.size w w' := by
  have HR := Lib.hid hv
  obtain ⟨A0, c0, rfl, hc0, _⟩ := hv
  go_enter Try.func10, Try.ntmps10
  obtain ⟨l, hll⟩ : ∃ l, b.take 1000 = l := ⟨_, rfl⟩
  have hl2 : l.length ≤ 1000 := by rw [← hll]; simp; omega
  have hl3 : l.length ≤ 1048576 := by omega
  have HLL := Lib.hid hll
  clear hll
  go_wp2_with fail
  refine calls_at fun W1 hW1 => ?_
  have hb1 : Below w.heap.size w W1 := by rw [← hW1]; exact below_alloc (Below.refl _ _) _
  have K1 : Blk W1 w.heap.size (cfgC c) 40 := by rw [← hW1]; exact Blk.new _ _ _
  clear hW1
  refine (shown11_any _).mono ?_
  rintro e W2 ⟨rfl, hb2⟩
  have K2 := K1.belowW hb2
  have hbw2 := bthen hb1 hb2
  have HB2 := Lib.hid hbw2
  clear hb1 hb2 K1
  go_wp2_with fail
  have hlt2 : w.heap.size < W2.drew.heap.size := K2.lt
  have HBD : Below w.heap.size w W2.drew := hbw2.drew
  have KH2 := Lib.hid (cfgAt_of K2.drew)
  go_region_held3 (fun W => W.cell? ⟨w.heap.size, 0, none⟩ = some (.int .u8 (c.fmt.toNat : Int)) ∧ W.cell? ⟨w.heap.size, 1, none⟩ = some (.bool c.num) ∧ W.cell? ⟨w.heap.size, 2, none⟩ = some (.bool c.skip) ∧ W.cell? ⟨w.heap.size, 3, none⟩ = some (.bool c.both) ∧ W.cell? ⟨w.heap.size, 4, none⟩ = some (.bool c.loops) ∧ W.cell? ⟨w.heap.size, 5, none⟩ = some (.bool c.back) ∧ W.cell? ⟨w.heap.size, 6, none⟩ = some (.int .i64 c.bud) ∧ W.cell? ⟨w.heap.size, 7, none⟩ = some (.int .i64 c.fan) ∧ W.cell? ⟨w.heap.size, 8, none⟩ = some (.int .i64 c.sha)) (first | exact KH2.out | exact cfgAt_below KH2.out hb5 hlt2)
    (first | (go_at_call 21; refine (few11_any _ b _ (Rd.below HR.out HBD)).mono ?_; rintro e w4 ⟨v4, rfl, hr4, rfl⟩; rw [HLL.out] at hr4; obtain ⟨A4, c4, hv4⟩ := Kd.V_slice hr4; subst hv4) | (go_at_call 20; refine (list11_any _ l c _ hr4 hl3).mono ?_; rintro e w5 ⟨v5, rfl, ho5, hb5⟩; obtain ⟨A5, c5, hv5⟩ := Kd.R_slice ho5; subst hv5))
  have K5 := K2.drew.belowW hb5
  have hbw5 := bthen hbw2.drew hb5
  have hlt5 : w.heap.size < w5.drew.heap.size := K5.lt
  have KH5 := Lib.hid (cfgAt_of K5.drew)
  clear hr4 ho5 hb5 HBD KH2 hlt2 K2 hbw2 HB2
  go_wp2_with fail
  have HBD : Below w.heap.size w w5.drew := hbw5.drew
  go_region_held3 (fun W => W.cell? ⟨w.heap.size, 0, none⟩ = some (.int .u8 (c.fmt.toNat : Int)) ∧ W.cell? ⟨w.heap.size, 1, none⟩ = some (.bool c.num) ∧ W.cell? ⟨w.heap.size, 2, none⟩ = some (.bool c.skip) ∧ W.cell? ⟨w.heap.size, 3, none⟩ = some (.bool c.both) ∧ W.cell? ⟨w.heap.size, 4, none⟩ = some (.bool c.loops) ∧ W.cell? ⟨w.heap.size, 5, none⟩ = some (.bool c.back) ∧ W.cell? ⟨w.heap.size, 6, none⟩ = some (.int .i64 c.bud) ∧ W.cell? ⟨w.heap.size, 7, none⟩ = some (.int .i64 c.fan) ∧ W.cell? ⟨w.heap.size, 8, none⟩ = some (.int .i64 c.sha)) (first | exact KH5.out | exact cfgAt_below KH5.out hb6 hlt5)
    (first | (go_at_call 21; refine (few11_any _ b _ (Rd.below HR.out HBD)).mono ?_; rintro e w4 ⟨v4, rfl, hr4, rfl⟩; rw [HLL.out] at hr4; obtain ⟨A4, c4, hv4⟩ := Kd.V_slice hr4; subst hv4) | (go_at_call 23; refine (fails_any _ l c _ hr4 hl3).mono ?_; rintro e w6 ⟨rfl, hb6⟩))
  have K6 := K5.drew.belowW hb6
  have hbw6 := bthen hbw5.drew hb6
  have KH6 := Lib.hid (cfgAt_of K6)
  clear hr4 hb6 HBD KH5 hlt5 K5 hbw5
  obtain ⟨q0, q1, q2, q3, q4, q5, q6, q7, q8⟩ := KH6.out
  go_wp2_with fail
  refine (right_any c _).mono ?_
  rintro e w7 ⟨rfl, hb7⟩
  have K7 := K6.belowW hb7
  have HB7 := Lib.hid (bthen hbw6 hb7)
  clear q0 q1 q2 q3 q4 q5 q6 q7 q8 K6 KH6 hbw6 hb7
  rcases hr : Pl.right c with _ | _
  · have h1 := Pl.fails_wrong l c hr
    have ha := congrArg Prod.fst h1.1
    have hb := congrArg Prod.snd h1.1
    have hi := congrArg List.length h1.2
    simp only [List.length_nil] at hi ha hb
    simp only [ha, hb, hi]
    clear hr h1 ha hb hi K7
    go_wp2_with fail
    go_ret
    exact ⟨rfl, HB7.out⟩
  · obtain ⟨q0, q1, q2, q3, q4, q5, q6, q7, q8⟩ := cfgAt_of K7
    have hb := Pl.right_bounds hr
    have hfb := Pl.right_more hr
    have hf1 : ((Pl.fails l c).2 != 1) = true := by simpa using Pl.fails_code l c hr
    obtain ⟨f1, f2⟩ : (Pl.fails l c).1 = (Pl.fails l c).1 ∧ True := ⟨rfl, trivial⟩
    obtain ⟨i1, i2, i3, i4⟩ := hfb
    obtain ⟨i5, i6, i7, i8, i9, i10⟩ := hb
    clear hr f1 f2
    rcases i4 with i4 | i4
    · have j4 : ((c.fmt.toNat : Int) != 3) = true := by simpa using i4
      go_wp2_with fail
      go_ret
      exact ⟨rfl, HB7.out⟩
    · rw [i4.2] at q1
      have j4 : ((c.fmt.toNat : Int) != 3) = false := by rw [i4.1]; rfl
      have HI4 := Lib.hid i4
      clear i4
      go_wp2_with fail
      go_ret
      exact ⟨rfl, HB7.out⟩
end Go.Proofs.Ytchbfeejpdfmhaa
