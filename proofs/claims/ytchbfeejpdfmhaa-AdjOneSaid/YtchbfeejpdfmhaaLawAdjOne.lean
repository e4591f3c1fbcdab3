import Derived.Test.YtchbfeejpdfmhaaPlainAdj
import Derived.Test.YtchbfeejpdfmhaaLaw9
/-! The law AdjOne, walked. -/
set_option linter.unusedSimpArgs false
set_option linter.unusedVariables false
namespace Go.Proofs.Ytchbfeejpdfmhaa
open Go.RowKit Go.Proofs.YtchbfeejpdfmhaaW.PrintWords Go.Proofs.YtchbfeejpdfmhaaW.PrintLast Go.Proofs.YtchbfeejpdfmhaaW.PrintMore
attribute [local go_sem] max2_int min2_int max_two min_two

set_option maxRecDepth 100000 in
set_option maxHeartbeats 4000000 in
theorem adjOne_walk (v : Value) (b : List UInt8) (num : Bool) (w : World) (hv : Rd kb w v b) (_ : b.length ≤ 140737488351232) :
    Calls Try.prog 4 #[v, .bool num] w fun e w' => e = .returned (.bool true) ∧ Below w.heap.size w w' := by
  have HR := Lib.hid hv
  obtain ⟨A0, c0, rfl, hc0, _⟩ := hv
  go_enter Try.func4, Try.ntmps4
  obtain ⟨l, hll⟩ : ∃ l, b.take 300 = l := ⟨_, rfl⟩
  have hl2 : l.length ≤ 300 := by rw [← hll]; simp; omega
  have HLL := Lib.hid hll
  clear hll
  go_wp2_with (go_at_call 12; refine (shown09_any _).mono ?_; rintro e w3 ⟨rfl, hb3⟩; have HB3 := Lib.hid hb3; clear hb3)
  refine (few09_any _ b _ (Rd.below HR.out HB3.out)).mono ?_
  rintro e w1 ⟨v2, rfl, hr2, rfl⟩
  rw [HLL.out] at hr2
  obtain ⟨A2, c2, hv2⟩ := Kd.V_slice hr2
  subst hv2
  have HR2 := Lib.hid hr2
  clear hr2
  go_wp2_with fail
  refine (aparse_any _ 0 l num _ HR2.out (by omega) (by omega) (by omega)).mono ?_
  rintro e w4 ⟨v4, rfl, hr4, hb4⟩
  obtain ⟨A4, c4, hv4⟩ := Kd.V_slice hr4
  subst hv4
  have HR4 := Lib.hid hr4
  have HB4 := Lib.hid hb4
  clear hr4 hb4
  go_wp2_with fail
  refine (few09_any _ b _ (Rd.below HR.out (bthen HB3.out HB4.out))).mono ?_
  rintro e w1 ⟨v5, rfl, hr5, rfl⟩
  rw [HLL.out] at hr5
  obtain ⟨A5, c5, hv5⟩ := Kd.V_slice hr5
  subst hv5
  have HR5 := Lib.hid hr5
  clear hr5
  go_wp2_with fail
  refine (words_any _ 0 l _ HR5.out (by omega) (by omega) (by omega)).mono ?_
  rintro e w6 ⟨v6, rfl, ho6, hb6⟩
  obtain ⟨A6, c6, hv6⟩ := Kd.N_slice ho6
  subst hv6
  have HB6 := Lib.hid (bthen HB3.out (bthen HB4.out hb6))
  have HX := Lib.hid (Rd.below HR4.out hb6)
  have HRf := Lib.hid (Rd.below HR.out HB6.out)
  have hwn := Pl.words_len 0 l
  have hT := Pl.adj_tells l num
  clear ho6 hb6 HB4 HR4 HR5 HB3 HR2
  obtain ⟨n, hn⟩ : ∃ n, (Pl.words 0 l).length = n := ⟨_, rfl⟩
  obtain ⟨xs, hxs⟩ : ∃ xs, Pl.adj 0 l num = xs := ⟨_, rfl⟩
  rw [hn] at hT hwn ⊢
  rw [hxs] at hT HX ⊢
  clear hn hxs
  rcases hT with ⟨hn0, hx⟩ | ⟨hn0, p, hp, hx⟩ | ⟨hlen, a, hal, hall⟩
  · subst hx
    obtain ⟨Ax, cx, hvx, hcx, hFx⟩ := HX.out
    injection hvx with hvx1 _ hvx2
    subst hvx1 hvx2
    obtain ⟨ad, A1, c1, A7, c7, hAa, hV1, hV2, x0, x1, x2, x3, x4⟩ := item_get hFx 0 _ rfl
    subst hAa
    have e0 : ad.add 0 = ad := by cases ad; rfl
    simp only [Nat.zero_mul, e0] at x0 x1 x2 x3 x4
    have hn' : (n : Int) = 0 := by omega
    have hl0 : (0 : Int) ≤ (l.length : Int) := by omega
    clear hFx hV1 hV2 HX x1 x2
    have hRd := Kd.V_drew HRf.out
    have hbd := (Below.refl w6.heap.size w6).drew
    have hlA : ad.block < w6.heap.size := World.block_lt_of_cell? _ _ x0
    have y0 := (hbd.cell (p := ad) hlA).trans x0
    have y3 := (hbd.cell (p := ⟨ad.block, ad.off + 3, none⟩) hlA).trans x3
    have y4 := (hbd.cell (p := ⟨ad.block, ad.off + 4, none⟩) hlA).trans x4
    simp only [List.length_cons, List.length_nil, Nat.reduceAdd]
    go_wp2_with fail
    go_region_held3 (fun W => W.cell? ad = some (.bool false) ∧ W.cell? ⟨ad.block, ad.off + 3, none⟩ = some (.int .i64 80) ∧ W.cell? ⟨ad.block, ad.off + 4, none⟩ = some (.int .i64 0)) (first | exact ⟨y0, y3, y4⟩)
      (first | (go_at_call 11; refine (few09_any _ b _ hRd).mono ?_; rintro e w9 ⟨v9, rfl, hr9, rfl⟩; rw [HLL.out] at hr9; obtain ⟨A9, c9, hv9⟩ := Kd.V_slice hr9; subst hv9))
    all_goals
      go_wp2
      go_ret
      exact ⟨rfl, HB6.out.drew⟩
  · subst hx
    obtain ⟨Ax, cx, hvx, hcx, hFx⟩ := HX.out
    injection hvx with hvx1 _ hvx2
    subst hvx1 hvx2
    obtain ⟨ad, A1, c1, A7, c7, hAa, hV1, hV2, x0, x1, x2, x3, x4⟩ := item_get hFx 0 _ rfl
    subst hAa
    have e0 : ad.add 0 = ad := by cases ad; rfl
    simp only [Nat.zero_mul, e0] at x0 x1 x2 x3 x4
    have hn' : ((n : Int) == 0) = false := beq_false_of_ne (by omega)
    clear hn0
    clear hFx hV1 hV2 HX x1 x2
    have hRd := Kd.V_drew HRf.out
    have hbd := (Below.refl w6.heap.size w6).drew
    have hlA : ad.block < w6.heap.size := World.block_lt_of_cell? _ _ x0
    have y0 := (hbd.cell (p := ad) hlA).trans x0
    have y3 := (hbd.cell (p := ⟨ad.block, ad.off + 3, none⟩) hlA).trans x3
    have y4 := (hbd.cell (p := ⟨ad.block, ad.off + 4, none⟩) hlA).trans x4
    simp only [List.length_cons, List.length_nil, Nat.reduceAdd]
    go_wp2_with fail
    go_region_held3 (fun W => W.cell? ad = some (.bool false) ∧ W.cell? ⟨ad.block, ad.off + 3, none⟩ = some (.int .i64 81) ∧ W.cell? ⟨ad.block, ad.off + 4, none⟩ = some (.int .i64 p)) (first | exact ⟨y0, y3, y4⟩)
      (first | (go_at_call 11; refine (few09_any _ b _ hRd).mono ?_; rintro e w9 ⟨v9, rfl, hr9, rfl⟩; rw [HLL.out] at hr9; obtain ⟨A9, c9, hv9⟩ := Kd.V_slice hr9; subst hv9))
    all_goals
      go_wp2
      go_ret
      exact ⟨rfl, HB6.out.drew⟩
  · have hxp : 0 < xs.length := by omega
    obtain ⟨x00, hx00⟩ : ∃ x, xs[0]? = some x := ⟨_, List.getElem?_eq_getElem hxp⟩
    obtain ⟨Ax, cx, hvx, hcx, hFx⟩ := HX.out
    injection hvx with hvx1 _ hvx2
    subst hvx1 hvx2
    obtain ⟨ad, A1, c1, A7, c7, hAa, hV1, hV2, x0, x1, x2, x3, x4⟩ := item_get hFx 0 x00 hx00
    subst hAa
    have e0 : ad.add 0 = ad := by cases ad; rfl
    simp only [Nat.zero_mul, e0] at x0 x1 x2 x3 x4
    obtain ⟨_, ha0, hc00, _⟩ := hall x00 (List.mem_of_getElem? hx00)
    rw [ha0] at hV1 x1
    rw [hc00] at x3
    have HV1 := Lib.hid hV1
    have hlA : ad.block < w6.heap.size := World.block_lt_of_cell? _ _ x0
    have hd0 : decide ((xs.length : Int) < 1) = false := by simp; omega
    have hq0 : (0 : Int) < (xs.length : Int) := by omega
    have hnl : ¬ ((xs.length : Int) < 1) := by omega
    have X1 := Lib.hid x1
    have HF := Lib.hid hFx
    have HALL := Lib.hid hall
    have hmx : (xs.length : Int) = if (n : Int) - 1 < 1 then 1 else (n : Int) - 1 := by split <;> omega
    have HMX := Lib.hid hmx
    have hx300 : xs.length ≤ 300 := by omega
    clear hFx hV1 hV2 HX x0 x2 x4 hall hx00 ha0 hc00 hmx hlen
    go_wp2_with fail
    clear x1 x3
    go_loopw [64] (fun i wr => ∃ k : Nat, i = .int .i64 (k : Int) ∧ Aside0 (k ≤ xs.length) ∧ Aside0 (Below w6.heap.size w6 wr)) (fun i _ => xs.length - (intOf i).toNat)
    case atStart => exact ⟨0, rfl, ⟨by omega⟩, ⟨Below.refl _ _⟩⟩
    case round =>
      obtain ⟨k, rfl, hk, HB⟩ := hrel
      by_cases hlt : k < xs.length
      · obtain ⟨x, hx⟩ : ∃ x, xs[k]? = some x := ⟨_, List.getElem?_eq_getElem hlt⟩
        obtain ⟨bd, B1, d1, B2, d2, hAb, hW1, hW2, y0, y1, y2, y3, y4⟩ := item_get HF.out k x hx
        injection hAb with hAb
        subst hAb
        have hlB : (ad.add (k * 5)).block < w6.heap.size := World.block_lt_of_cell? _ _ y0
        obtain ⟨f1, f2, f3, f4⟩ := HALL.out x (List.mem_of_getElem? hx)
        rw [f1] at y0
        rw [f2] at y1 hW1
        rw [f3] at y3
        rw [f4] at y4
        have z0 := (HB.out.cell (p := ad.add (k * 5)) hlB).trans y0
        have z1 := (HB.out.cell (p := ⟨(ad.add (k * 5)).block, (ad.add (k * 5)).off + 1, none⟩) hlB).trans y1
        have z2 := (HB.out.cell (p := ⟨(ad.add (k * 5)).block, (ad.add (k * 5)).off + 2, none⟩) hlB).trans y2
        have z3 := (HB.out.cell (p := ⟨(ad.add (k * 5)).block, (ad.add (k * 5)).off + 3, none⟩) hlB).trans y3
        have z4 := (HB.out.cell (p := ⟨(ad.add (k * 5)).block, (ad.add (k * 5)).off + 4, none⟩) hlB).trans y4
        have HW1 := Lib.hid hW1
        clear y0 y1 y2 y3 y4 f1 f2 f3 f4 hx hW1 hW2
        go_wp2_with fail
        refine wp_at fun W1 hW1 => ?_
        have hB1 : Below wr.heap.size wr W1 := by rw [← hW1]; exact below_alloc (Below.refl _ _) _
        have KB := Blk.new wr #[.bool (decide (1 < n)), .slice B1 a.length d1, .slice B2 x.2.2.1.length d2, .int .i64 0, .int .i64 0] 36
        rw [hW1] at KB
        obtain ⟨hC, hCf⟩ := KB.drew.cell
        clear hW1 z0 z1 z2 z3 z4
        have hBd := (bthen HB.out hB1).drew
        have c0 := hC 0
        have c1' := hC 1
        have c3 := hC 3
        have c4' := hC 4
        have ca := (hBd.cell (p := ⟨ad.block, ad.off + 1, none⟩) hlA).trans X1.out
        simp only [List.getElem?_toArray, List.getElem?_cons_zero, List.getElem?_cons_succ] at c0 c1' c3 c4'
        have s1 := byte_string (Kd.V_below HW1.out hBd)
        have s2 := byte_string (Kd.V_below HV1.out hBd)
        have HBn := Lib.hid (bthen HB.out hB1).drew
        have hg : decide ((1 : Int) < (n : Int)) = decide (1 < n) := decide_eq_decide.2 (by omega)
        clear hC hCf KB hB1 hBd
        obtain ⟨two, htwo⟩ : ∃ t, decide (1 < n) = t := ⟨_, rfl⟩
        rw [htwo] at hg c0
        clear htwo
        go_region_held3 (fun W => W.cell? ⟨wr.heap.size, 0, none⟩ = some (.bool two) ∧ W.cell? ⟨wr.heap.size, 1, none⟩ = some (.slice B1 a.length d1) ∧ W.cell? ⟨wr.heap.size, 3, none⟩ = some (.int .i64 0) ∧ W.cell? ⟨wr.heap.size, 4, none⟩ = some (.int .i64 0) ∧ W.cell? ⟨ad.block, ad.off + 1, none⟩ = some (.slice A1 a.length c1) ∧ (convert 22 9 (.slice B1 a.length d1)).run Try.prog W = .ok (.string ⟨a.toArray⟩) W ∧ (convert 22 9 (.slice A1 a.length c1)).run Try.prog W = .ok (.string ⟨a.toArray⟩) W) (first | exact ⟨c0, c1', c3, c4', ca, s1, s2⟩) (fail)
        all_goals
          go_wp2
          go_roundw
          case rel => exact ⟨k + 1, by go_num, ⟨by omega⟩, ⟨HBn.out⟩⟩
          case measure => simp [intOf]; omega
      · obtain rfl : k = xs.length := by have := hk.out; omega
        have hd : decide ((xs.length : Int) < (xs.length : Int)) = false := by simp
        have hmx2 := HMX.out
        have hnn : (n : Int) - 1 ≤ 300 := by omega
        rcases Int.lt_or_le ((n : Int) - 1) 1 with h1 | h1
        · rw [if_pos h1] at hmx2
          have hmx3 : ((xs.length : Int) == 1) = true := by rw [beq_iff_eq]; exact hmx2
          clear HMX hmx2
          go_wp2_with fail
          go_ret
          exact ⟨rfl, bthen HB6.out HB.out⟩
        · rw [if_neg (by omega)] at hmx2
          have hmx3 : ((xs.length : Int) == (n : Int) - 1) = true := by rw [beq_iff_eq]; exact hmx2
          have h1' : ¬ (n : Int) - 1 < 1 := by omega
          clear HMX hmx2
          go_wp2_with fail
          go_ret
          exact ⟨rfl, bthen HB6.out HB.out⟩
end Go.Proofs.Ytchbfeejpdfmhaa
