import Derived.Test.YtjdcejbblcbjpaaDoorBase
import Derived.Test.YtjdcejbblcbjpaaDoorPlain
import Derived.Test.YtjdcejbblcbjpaaDoorItemKit
/-! creelref08.Same. -/
set_option linter.unusedSimpArgs false
set_option linter.unusedVariables false
namespace Go.Proofs.YtjdcejbblcbjpaaDoor
open Go.RowKit Go.Proofs.YtjdcejbblcbjpaaDoorW.PrintWords Go.Proofs.YtjdcejbblcbjpaaDoorW.PrintLast Go.Proofs.YtjdcejbblcbjpaaDoorW.PrintMore

/-- Items that are the same are the same. -/
theorem same_any (x : Pl.It) (va vb va' vb' : Value) (w : World) (ha : Rd kb w va x.a) (hb : Rd kb w vb x.b) (ha' : Rd kb w va' x.a) (hb' : Rd kb w vb' x.b) :
    Calls Tryd.prog 24 #[.agg #[.bool x.two, va, vb, .int .i64 x.code, .int .i64 x.at_], .agg #[.bool x.two, va', vb', .int .i64 x.code, .int .i64 x.at_]] w fun e w' => e = .returned (.bool true) ∧ Below w.heap.size w w' := by
  obtain ⟨A1, c1, h1⟩ := Kd.V_slice ha
  obtain ⟨A2, c2, h2⟩ := Kd.V_slice hb
  obtain ⟨A3, c3, h3⟩ := Kd.V_slice ha'
  obtain ⟨A4, c4, h4⟩ := Kd.V_slice hb'
  subst h1 h2 h3 h4
  have Hz := Lib.hid ha
  have Hb := Lib.hid hb
  have Hc := Lib.hid ha'
  have Hd := Lib.hid hb'
  clear ha hb ha' hb'
  obtain ⟨w1, hw1⟩ : ∃ w1, (w.alloc (.cells #[.bool x.two, .slice A1 x.a.length c1, .slice A2 x.b.length c2, .int .i64 x.code, .int .i64 x.at_] 36)).alloc (.cells #[.bool x.two, .slice A3 x.a.length c3, .slice A4 x.b.length c4, .int .i64 x.code, .int .i64 x.at_] 36) = w1 := ⟨_, rfl⟩
  have HB : Below w.heap.size w w1 := by rw [← hw1]; exact below_alloc (below_alloc (Below.refl _ _) _) _
  have e1 := byte_string (Rd.below Hz.out HB)
  have e2 := byte_string (Rd.below Hb.out HB)
  have e3 := byte_string (Rd.below Hc.out HB)
  have e4 := byte_string (Rd.below Hd.out HB)
  rw [← hw1] at e1 e2 e3 e4 HB
  have HBH := Lib.hid HB
  clear hw1 HB
  go_enter Tryd.func24, Tryd.ntmps24
  go_wp2_with fail
  go_ret
  exact ⟨by simp, HBH.out⟩
end Go.Proofs.YtjdcejbblcbjpaaDoor
/-! creelref08.SameAll. -/
set_option linter.unusedSimpArgs false
set_option linter.unusedVariables false
namespace Go.Proofs.YtjdcejbblcbjpaaDoor
open Go.RowKit Go.Proofs.YtjdcejbblcbjpaaDoorW.PrintWords Go.Proofs.YtjdcejbblcbjpaaDoorW.PrintLast Go.Proofs.YtjdcejbblcbjpaaDoorW.PrintMore

/-- An item of a row of items. -/
theorem item_get {w : World} {A : Option Addr} {n : Nat} {ok : Nat → Prop} {xs : List Pl.ItT} (h : Kd.F kItem w ok A n xs) (k : Nat) (x : Pl.ItT) (hx : xs[k]? = some x) :
    ∃ ad A1 c1 A2 c2, A = some ad ∧ Kd.V kb 0 w 0 ok (.slice A1 x.2.1.length c1) x.2.1 ∧ Kd.V kb 0 w 0 ok (.slice A2 x.2.2.1.length c2) x.2.2.1 ∧ w.cell? (ad.add (k * 5)) = some (.bool x.1) ∧ w.cell? ⟨(ad.add (k * 5)).block, (ad.add (k * 5)).off + 1, none⟩ = some (.slice A1 x.2.1.length c1) ∧ w.cell? ⟨(ad.add (k * 5)).block, (ad.add (k * 5)).off + 2, none⟩ = some (.slice A2 x.2.2.1.length c2) ∧ w.cell? ⟨(ad.add (k * 5)).block, (ad.add (k * 5)).off + 3, none⟩ = some (.int .i64 x.2.2.2.1) ∧ w.cell? ⟨(ad.add (k * 5)).block, (ad.add (k * 5)).off + 4, none⟩ = some (.int .i64 x.2.2.2.2) := by
  obtain ⟨ad, cs, he, hK, hc⟩ := row_get h k x hx
  obtain ⟨va, vb, rfl, hVa, hVb⟩ := item_open hK
  obtain ⟨A1, c1, rfl⟩ := Kd.V_slice hVa
  obtain ⟨A2, c2, rfl⟩ := Kd.V_slice hVb
  refine ⟨ad, A1, c1, A2, c2, he, hVa, hVb, hc 0 _ rfl, ?_, ?_, ?_, ?_⟩
  · have := hc 1 _ rfl
    rw [add_field _ _ 1 (by omega)] at this
    exact this
  · have := hc 2 _ rfl
    rw [add_field _ _ 2 (by omega)] at this
    exact this
  · have := hc 3 _ rfl
    rw [add_field _ _ 3 (by omega)] at this
    exact this
  · have := hc 4 _ rfl
    rw [add_field _ _ 4 (by omega)] at this
    exact this

set_option maxRecDepth 100000 in
set_option maxHeartbeats 4000000 in
/-- Rows of items that are the same are the same. -/
theorem sameAll_any (va vb : Value) (xs : List Pl.ItT) (w : World) (ha : Rd kItem w va xs) (hb : Rd kItem w vb xs) :
    Calls Tryd.prog 13 #[va, vb] w fun e w' => e = .returned (.bool true) ∧ Below w.heap.size w w' := by
  obtain ⟨Aa, ca, rfl, hca, hFa⟩ := ha
  obtain ⟨Ab, cb, rfl, hcb, hFb⟩ := hb
  have HA := Lib.hid hFa
  have HB := Lib.hid hFb
  have hmx := Kd.F_max hFa
  clear hFa hFb
  go_enter Tryd.func13, Tryd.ntmps13
  go_wp2_with fail
  go_loopw [5] (fun i wr => ∃ k : Nat, i = .int .i64 (k : Int) ∧ Aside0 (k ≤ xs.length) ∧ Aside0 (Below w.heap.size w wr)) (fun i _ => xs.length - (intOf i).toNat)
  case atStart => exact ⟨0, rfl, ⟨by omega⟩, ⟨Below.refl _ _⟩⟩
  case round =>
    obtain ⟨k, rfl, hk, HBw⟩ := hrel
    by_cases hlt : k < xs.length
    · obtain ⟨x, hx⟩ : ∃ x, xs[k]? = some x := ⟨_, List.getElem?_eq_getElem hlt⟩
      obtain ⟨ad, A1, c1, A2, c2, hAa, hV1, hV2, x0, x1, x2, x3, x4⟩ := item_get HA.out k x hx
      obtain ⟨bd, A3, c3, A4, c4, hAb, hV3, hV4, x5, x6, x7, x8, x9⟩ := item_get HB.out k x hx
      subst hAa hAb
      have hlA : (ad.add (k * 5)).block < w.heap.size := World.block_lt_of_cell? _ _ x0
      have hlB : (bd.add (k * 5)).block < w.heap.size := World.block_lt_of_cell? _ _ x5
      have hb0 := HBw.out.drew
      have HV1 := Lib.hid hV1
      have HV2 := Lib.hid hV2
      have HV3 := Lib.hid hV3
      have HV4 := Lib.hid hV4
      have hy : Aside0 (wr.drew.cell? (ad.add (k * 5)) = some (.bool x.1) ∧ wr.drew.cell? ⟨(ad.add (k * 5)).block, (ad.add (k * 5)).off + 1, none⟩ = some (.slice A1 x.2.1.length c1) ∧ wr.drew.cell? ⟨(ad.add (k * 5)).block, (ad.add (k * 5)).off + 2, none⟩ = some (.slice A2 x.2.2.1.length c2) ∧ wr.drew.cell? ⟨(ad.add (k * 5)).block, (ad.add (k * 5)).off + 3, none⟩ = some (.int .i64 x.2.2.2.1) ∧ wr.drew.cell? ⟨(ad.add (k * 5)).block, (ad.add (k * 5)).off + 4, none⟩ = some (.int .i64 x.2.2.2.2) ∧ wr.drew.cell? (bd.add (k * 5)) = some (.bool x.1) ∧ wr.drew.cell? ⟨(bd.add (k * 5)).block, (bd.add (k * 5)).off + 1, none⟩ = some (.slice A3 x.2.1.length c3) ∧ wr.drew.cell? ⟨(bd.add (k * 5)).block, (bd.add (k * 5)).off + 2, none⟩ = some (.slice A4 x.2.2.1.length c4) ∧ wr.drew.cell? ⟨(bd.add (k * 5)).block, (bd.add (k * 5)).off + 3, none⟩ = some (.int .i64 x.2.2.2.1) ∧ wr.drew.cell? ⟨(bd.add (k * 5)).block, (bd.add (k * 5)).off + 4, none⟩ = some (.int .i64 x.2.2.2.2)) := ⟨(hb0.cell (p := ad.add (k * 5)) hlA).trans x0, (hb0.cell (p := ⟨(ad.add (k * 5)).block, (ad.add (k * 5)).off + 1, none⟩) hlA).trans x1, (hb0.cell (p := ⟨(ad.add (k * 5)).block, (ad.add (k * 5)).off + 2, none⟩) hlA).trans x2, (hb0.cell (p := ⟨(ad.add (k * 5)).block, (ad.add (k * 5)).off + 3, none⟩) hlA).trans x3, (hb0.cell (p := ⟨(ad.add (k * 5)).block, (ad.add (k * 5)).off + 4, none⟩) hlA).trans x4, (hb0.cell (p := bd.add (k * 5)) hlB).trans x5, (hb0.cell (p := ⟨(bd.add (k * 5)).block, (bd.add (k * 5)).off + 1, none⟩) hlB).trans x6, (hb0.cell (p := ⟨(bd.add (k * 5)).block, (bd.add (k * 5)).off + 2, none⟩) hlB).trans x7, (hb0.cell (p := ⟨(bd.add (k * 5)).block, (bd.add (k * 5)).off + 3, none⟩) hlB).trans x8, (hb0.cell (p := ⟨(bd.add (k * 5)).block, (bd.add (k * 5)).off + 4, none⟩) hlB).trans x9⟩
      clear hV1 hV2 hV3 hV4 hx
      have q1 : (0 : Int) ≤ (k : Int) := by omega
      have q2 : (k : Int) < (xs.length : Int) := by omega
      obtain ⟨HX⟩ := hy
      go_wp2_with fail
      go_region_held3 (fun W => W.cell? (ad.add (k * 5)) = some (.bool x.1) ∧ W.cell? ⟨(ad.add (k * 5)).block, (ad.add (k * 5)).off + 1, none⟩ = some (.slice A1 x.2.1.length c1) ∧ W.cell? ⟨(ad.add (k * 5)).block, (ad.add (k * 5)).off + 2, none⟩ = some (.slice A2 x.2.2.1.length c2) ∧ W.cell? ⟨(ad.add (k * 5)).block, (ad.add (k * 5)).off + 3, none⟩ = some (.int .i64 x.2.2.2.1) ∧ W.cell? ⟨(ad.add (k * 5)).block, (ad.add (k * 5)).off + 4, none⟩ = some (.int .i64 x.2.2.2.2) ∧ W.cell? (bd.add (k * 5)) = some (.bool x.1) ∧ W.cell? ⟨(bd.add (k * 5)).block, (bd.add (k * 5)).off + 1, none⟩ = some (.slice A3 x.2.1.length c3) ∧ W.cell? ⟨(bd.add (k * 5)).block, (bd.add (k * 5)).off + 2, none⟩ = some (.slice A4 x.2.2.1.length c4) ∧ W.cell? ⟨(bd.add (k * 5)).block, (bd.add (k * 5)).off + 3, none⟩ = some (.int .i64 x.2.2.2.1) ∧ W.cell? ⟨(bd.add (k * 5)).block, (bd.add (k * 5)).off + 4, none⟩ = some (.int .i64 x.2.2.2.2)) (first | exact HX | (exact ⟨(hb1.cell (p := ad.add (k * 5)) hlA).trans x0, (hb1.cell (p := ⟨(ad.add (k * 5)).block, (ad.add (k * 5)).off + 1, none⟩) hlA).trans x1, (hb1.cell (p := ⟨(ad.add (k * 5)).block, (ad.add (k * 5)).off + 2, none⟩) hlA).trans x2, (hb1.cell (p := ⟨(ad.add (k * 5)).block, (ad.add (k * 5)).off + 3, none⟩) hlA).trans x3, (hb1.cell (p := ⟨(ad.add (k * 5)).block, (ad.add (k * 5)).off + 4, none⟩) hlA).trans x4, (hb1.cell (p := bd.add (k * 5)) hlB).trans x5, (hb1.cell (p := ⟨(bd.add (k * 5)).block, (bd.add (k * 5)).off + 1, none⟩) hlB).trans x6, (hb1.cell (p := ⟨(bd.add (k * 5)).block, (bd.add (k * 5)).off + 2, none⟩) hlB).trans x7, (hb1.cell (p := ⟨(bd.add (k * 5)).block, (bd.add (k * 5)).off + 3, none⟩) hlB).trans x8, (hb1.cell (p := ⟨(bd.add (k * 5)).block, (bd.add (k * 5)).off + 4, none⟩) hlB).trans x9⟩))
        (first | (go_at_call 24; refine (same_any ⟨x.1, x.2.1, x.2.2.1, x.2.2.2.1, x.2.2.2.2⟩ _ _ _ _ _ (Rd.below HV1.out hb0) (Rd.below HV2.out hb0) (Rd.below HV3.out hb0) (Rd.below HV4.out hb0)).mono ?_; rintro e w6 ⟨rfl, hb6⟩; have hb1 := bthen hb0 hb6))
      go_wp2
      go_roundw
      case rel => exact ⟨k + 1, by go_num, ⟨by omega⟩, ⟨hb1⟩⟩
      case measure => simp [intOf]; omega
    · obtain rfl : k = xs.length := by have := hk.out; omega
      have hd : decide ((xs.length : Int) < (xs.length : Int)) = false := by simp
      go_wp2_with fail
      go_ret
      exact ⟨rfl, HBw.out⟩
end Go.Proofs.YtjdcejbblcbjpaaDoor
