import Derived.Test.YtjogbgiknnfinaaBase
/-! creelref07.Same. -/
set_option linter.unusedSimpArgs false
set_option linter.unusedVariables false
namespace Go.Proofs.Ytjogbgiknnfinaa
open Go.RowKit Go.Proofs.YtjogbgiknnfinaaW.PrintWords Go.Proofs.YtjogbgiknnfinaaW.PrintLast Go.Proofs.YtjogbgiknnfinaaW.PrintMore

set_option maxRecDepth 100000 in
set_option maxHeartbeats 4000000 in
/-- Rows of lines that are the same are the same. -/
theorem sameL_any (va vb : Value) (xs : List (Int × List UInt8)) (w : World) (ha : Rd kLine w va xs) (hb : Rd kLine w vb xs) :
    Calls Try.prog 25 #[va, vb] w fun e w' => e = .returned (.bool true) ∧ Below w.heap.size w w' := by
  obtain ⟨Aa, ca, rfl, hca, hFa⟩ := ha
  obtain ⟨Ab, cb, rfl, hcb, hFb⟩ := hb
  have HA := Lib.hid hFa
  have HB := Lib.hid hFb
  have hmx := Kd.F_max hFa
  clear hFa hFb
  go_enter Try.func25, Try.ntmps25
  go_wp2_with fail
  go_loopw [5] (fun i wr => ∃ k : Nat, i = .int .i64 (k : Int) ∧ Aside0 (k ≤ xs.length) ∧ Aside0 (Below w.heap.size w wr)) (fun i _ => xs.length - (intOf i).toNat)
  case atStart => exact ⟨0, rfl, ⟨by omega⟩, ⟨Below.refl _ _⟩⟩
  case round =>
    obtain ⟨k, rfl, hk, HBw⟩ := hrel
    by_cases hlt : k < xs.length
    · obtain ⟨x, hx⟩ : ∃ x, xs[k]? = some x := ⟨_, List.getElem?_eq_getElem hlt⟩
      obtain ⟨ad, A1, c1, hAa, hV1, x0, x1⟩ := line_get HA.out k x hx
      obtain ⟨bd, A3, c3, hAb, hV3, x5, x6⟩ := line_get HB.out k x hx
      subst hAa hAb
      have hlA : (ad.add (k * 2)).block < w.heap.size := World.block_lt_of_cell? _ _ x0
      have hlB : (bd.add (k * 2)).block < w.heap.size := World.block_lt_of_cell? _ _ x5
      have hb0 := HBw.out.drew
      have hy : Aside0 (wr.drew.cell? (ad.add (k * 2)) = some (.int .i64 x.1) ∧ wr.drew.cell? ⟨(ad.add (k * 2)).block, (ad.add (k * 2)).off + 1, none⟩ = some (.slice A1 x.2.length c1) ∧ wr.drew.cell? (bd.add (k * 2)) = some (.int .i64 x.1) ∧ wr.drew.cell? ⟨(bd.add (k * 2)).block, (bd.add (k * 2)).off + 1, none⟩ = some (.slice A3 x.2.length c3)) :=
        ⟨(hb0.cell (p := ad.add (k * 2)) hlA).trans x0, (hb0.cell (p := ⟨(ad.add (k * 2)).block, (ad.add (k * 2)).off + 1, none⟩) hlA).trans x1, (hb0.cell (p := bd.add (k * 2)) hlB).trans x5, (hb0.cell (p := ⟨(bd.add (k * 2)).block, (bd.add (k * 2)).off + 1, none⟩) hlB).trans x6⟩
      have e1 := byte_string (Rd.below hV1 hb0)
      have e3 := byte_string (Rd.below hV3 hb0)
      clear hV1 hV3 hx
      have q1 : (0 : Int) ≤ (k : Int) := by omega
      have q2 : (k : Int) < (xs.length : Int) := by omega
      obtain ⟨HX⟩ := hy
      go_wp2_with fail
      go_region_held3 (fun W => W.cell? (ad.add (k * 2)) = some (.int .i64 x.1) ∧ W.cell? ⟨(ad.add (k * 2)).block, (ad.add (k * 2)).off + 1, none⟩ = some (.slice A1 x.2.length c1) ∧ W.cell? (bd.add (k * 2)) = some (.int .i64 x.1) ∧ W.cell? ⟨(bd.add (k * 2)).block, (bd.add (k * 2)).off + 1, none⟩ = some (.slice A3 x.2.length c3) ∧ (convert 22 9 (.slice A1 x.2.length c1)).run Try.prog W = .ok (.string ⟨x.2.toArray⟩) W ∧ (convert 22 9 (.slice A3 x.2.length c3)).run Try.prog W = .ok (.string ⟨x.2.toArray⟩) W) (first | exact ⟨HX.1, HX.2.1, HX.2.2.1, HX.2.2.2, e1, e3⟩)
        (first | fail)
      go_wp2
      go_roundw
      case rel => exact ⟨k + 1, by go_num, ⟨by omega⟩, ⟨hb0⟩⟩
      case measure => simp [intOf]; omega
    · obtain rfl : k = xs.length := by have := hk.out; omega
      have hd : decide ((xs.length : Int) < (xs.length : Int)) = false := by simp
      go_wp2_with fail
      go_ret
      exact ⟨rfl, HBw.out⟩
end Go.Proofs.Ytjogbgiknnfinaa
