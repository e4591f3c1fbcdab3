import Derived.Test.YtfppbkpdpapemaaDoorNames
/-! creellaw20.texts, creellaw20.shown. -/
set_option linter.unusedSimpArgs false
set_option linter.unusedVariables false
namespace Go.Proofs.YtfppbkpdpapemaaDoor
open Go.RowKit Go.Proofs.YtfppbkpdpapemaaDoorW.PrintWords Go.Proofs.YtfppbkpdpapemaaDoorW.PrintLast Go.Proofs.YtfppbkpdpapemaaDoorW.PrintMore

set_option maxRecDepth 100000 in
set_option maxHeartbeats 1000000 in
theorem texts20_any (va vb : Value) (xs : List (List UInt8)) (w : World) (ha : Rd kStr w va xs) (hb : Rd kStr w vb xs) :
    Calls Tryd.prog 16 #[va, vb] w fun e w' => e = .returned (.bool true) ∧ Below w.heap.size w w' := by
  obtain ⟨Aa, ca, rfl, hca, hFa⟩ := ha
  obtain ⟨Ab, cb, rfl, hcb, hFb⟩ := hb
  have HA := Lib.hid (Kd.F_now hFa)
  have HB := Lib.hid (Kd.F_now hFb)
  have HFA := Lib.hid hFa
  have HFB := Lib.hid hFb
  have hmx := Kd.F_max hFa
  clear hFa hFb
  go_enter Tryd.func16, Tryd.ntmps16
  go_wp2_with fail
  go_loopw [13] (fun i wr => ∃ k : Nat, i = .int .i64 (k : Int) ∧ Aside0 (k ≤ xs.length) ∧ Aside0 (Below w.heap.size w wr)) (fun i _ => xs.length - (intOf i).toNat)
  case atStart => exact ⟨0, rfl, ⟨by omega⟩, ⟨Below.refl _ _⟩⟩
  case round =>
    obtain ⟨k, rfl, hk, HBw⟩ := hrel
    by_cases hlt : k < xs.length
    · obtain ⟨x, hx⟩ : ∃ x, xs[k]? = some x := ⟨_, List.getElem?_eq_getElem hlt⟩
      obtain ⟨ad, hAa, hc1⟩ := kStr_cell HFA.out k x hx
      obtain ⟨bd, hAb, hc2⟩ := kStr_cell HFB.out k x hx
      subst hAa hAb
      have hlA := World.block_lt_of_cell? _ _ hc1
      have hlB := World.block_lt_of_cell? _ _ hc2
      have hb0 := HBw.out.drew
      have HX : Aside0 (wr.drew.cell? (ad.add k) = some (strV x) ∧ wr.drew.cell? (bd.add k) = some (strV x)) := ⟨(hb0.cell (p := ad.add k) hlA).trans hc1, (hb0.cell (p := bd.add k) hlB).trans hc2⟩
      clear hx hc1 hc2
      have q1 : (0 : Int) ≤ (k : Int) := by omega
      have q2 : (k : Int) < (xs.length : Int) := by omega
      go_wp2_with fail
      go_region_held3 (fun W => W.cell? (ad.add k) = some (strV x) ∧ W.cell? (bd.add k) = some (strV x)) (first | exact HX.out) (first | fail)
      go_wp2
      go_roundw
      case rel => exact ⟨k + 1, by go_num, ⟨by omega⟩, ⟨hb0⟩⟩
      case measure => simp [intOf]; omega
    · obtain rfl : k = xs.length := by have := hk.out; omega
      have hd : decide ((xs.length : Int) < (xs.length : Int)) = false := by simp
      go_wp2_with fail
      go_ret
      exact ⟨rfl, HBw.out⟩
def Pl.cfg20 : Pl.Cfg := ⟨2, false, false, false, false, true, 2, 2, 2⟩
theorem ex20 : Pl.names Pl.cfg20 = [[108, 97, 98, 101, 108, 115], [115, 46, 48], [115, 46, 49], [116, 46, 48], [116, 46, 49]] := by decide
set_option maxRecDepth 100000 in
set_option maxHeartbeats 1000000 in
theorem shown20_any (w : World) : Calls Tryd.prog 9 #[] w fun e w' => e = .returned (.bool true) ∧ Below w.heap.size w w' := by
  go_enter Tryd.func9, Tryd.ntmps9
  go_wp2_with fail
  refine (names_any Pl.cfg20 w).mono ?_
  rw [ex20]
  rintro e w1 ⟨v1, rfl, ho1, hb1⟩
  obtain ⟨g1, c1, hv1, _⟩ := strS_form ho1 (by simp)
  subst hv1
  have HO1 := Lib.hid ho1
  have HB1 := Lib.hid hb1
  clear ho1 hb1
  go_wp2_with fail
  refine calls_at fun W2 hW2 => ?_
  have HL := lit_ownS w1 w1.heap.size [[108, 97, 98, 101, 108, 115], [115, 46, 48], [115, 46, 49], [116, 46, 48], [116, 46, 49]] [strV [108, 97, 98, 101, 108, 115], strV [115, 46, 48], strV [115, 46, 49], strV [116, 46, 48], strV [116, 46, 49]] rfl (Nat.le_refl _) (by simp)
  have hb2 : Below w1.heap.size w1 W2 := by rw [← hW2]; exact below_alloc (Below.refl _ _) _
  rw [show w1.alloc (.cells [strV [108, 97, 98, 101, 108, 115], strV [115, 46, 48], strV [115, 46, 49], strV [116, 46, 48], strV [116, 46, 49]].toArray 9) = W2 from hW2] at HL
  clear hW2
  refine (texts20_any _ _ _ W2 (Rd.below HO1.out.rd hb2) HL.rd).mono ?_
  rintro e w3 ⟨rfl, hb3⟩
  have HB3 := Lib.hid (bthen HB1.out (bthen hb2 hb3))
  clear HL hb2 hb3
  go_wp2_with fail
  go_ret
  exact ⟨rfl, HB3.out⟩
end Go.Proofs.YtfppbkpdpapemaaDoor
